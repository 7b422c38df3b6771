-- Written by the session's program mk.py (which runs the kit's print.py over functions and over contracts given by hand).
import Derived.Test.YtckmncebedhgeaaG0
import Derived.Test.YtckmncebedhgeaaGgT
namespace Go.Proofs.Ytckmncebedhgeaa.G
open Go.RowKit Go.Maps Go.Proofs.YtckmncebedhgeaaW.PrintWords Go.Proofs.YtckmncebedhgeaaW.PrintLast Go.Proofs.YtckmncebedhgeaaW.PrintMore
attribute [local go_sem] max2_int min2_int max_two min_two max_three min_three max_four min_four   -- for this text's walks alone
set_option linter.unusedVariables false
set_option linter.unusedSimpArgs false

/-! ### spec_l05Circles: function 109 -/
mutual
def spec_l05Circles.l0 : Nat → List Int → List Bool → Int → List Int → Int → Option (Int)
  | 0, _, _, _, _, _ => none
  | k + 1, x0, x1, x5, x6, x7 => if x7 < (wrap64 (Int.tdiv x5 2)) then ((spec_l01Places.f k x0 x7).bind fun bt104 => (if 0 ≤ x7 then (if x7 < (x1.length : Int) then (if rdOf false x1 x7 = true then (if 0 ≤ (wrap64 (2 * bt104.1)) then (if (wrap64 (2 * bt104.1)) < (x6.length : Int) then (if 0 ≤ (wrap64 (2 * bt104.2)) then (if (wrap64 (2 * bt104.2)) < (x6.length : Int) then (if 0 ≤ (wrap64 ((wrap64 (2 * bt104.1)) + 1)) then (if (wrap64 ((wrap64 (2 * bt104.1)) + 1)) < (x6.length : Int) then (if 0 ≤ (wrap64 ((wrap64 (2 * bt104.2)) + 1)) then (if (wrap64 ((wrap64 (2 * bt104.2)) + 1)) < (x6.length : Int) then (spec_l05Circles.l0 k x0 x1 x5 ((((x6.set ((wrap64 (2 * bt104.1)) : Int).toNat (wrap64 (2 * bt104.2))).set ((wrap64 (2 * bt104.2)) : Int).toNat (wrap64 (2 * bt104.1))).set ((wrap64 ((wrap64 (2 * bt104.1)) + 1)) : Int).toNat (wrap64 ((wrap64 (2 * bt104.2)) + 1))).set ((wrap64 ((wrap64 (2 * bt104.2)) + 1)) : Int).toNat (wrap64 ((wrap64 (2 * bt104.1)) + 1))) (wrap64 (x7 + 1))) else (none)) else (none)) else (none)) else (none)) else (none)) else (none)) else (none)) else (none)) else (if 0 ≤ (wrap64 (2 * bt104.1)) then (if (wrap64 (2 * bt104.1)) < (x6.length : Int) then (if 0 ≤ (wrap64 ((wrap64 (2 * bt104.2)) + 1)) then (if (wrap64 ((wrap64 (2 * bt104.2)) + 1)) < (x6.length : Int) then (if 0 ≤ (wrap64 ((wrap64 (2 * bt104.1)) + 1)) then (if (wrap64 ((wrap64 (2 * bt104.1)) + 1)) < (x6.length : Int) then (if 0 ≤ (wrap64 (2 * bt104.2)) then (if (wrap64 (2 * bt104.2)) < (x6.length : Int) then (spec_l05Circles.l0 k x0 x1 x5 ((((x6.set ((wrap64 (2 * bt104.1)) : Int).toNat (wrap64 ((wrap64 (2 * bt104.2)) + 1))).set ((wrap64 ((wrap64 (2 * bt104.2)) + 1)) : Int).toNat (wrap64 (2 * bt104.1))).set ((wrap64 ((wrap64 (2 * bt104.1)) + 1)) : Int).toNat (wrap64 (2 * bt104.2))).set ((wrap64 (2 * bt104.2)) : Int).toNat (wrap64 ((wrap64 (2 * bt104.1)) + 1))) (wrap64 (x7 + 1))) else (none)) else (none)) else (none)) else (none)) else (none)) else (none)) else (none)) else (none))) else (none)) else (none))) else (if 0 ≤ (wrap64 (2 * x5)) then (if (wrap64 (2 * x5) : Int).toNat ≤ 281474976710656 then (spec_l05Circles.l1 k x5 x6 (List.replicate (wrap64 (2 * x5) : Int).toNat false) 0 0) else (none)) else (none))
def spec_l05Circles.l1 : Nat → Int → List Int → List Bool → Int → Int → Option (Int)
  | 0, _, _, _, _, _ => none
  | k + 1, x5, x6, x10, x11, x12 => if x12 < (wrap64 (2 * x5)) then (if 0 ≤ x12 then (if x12 < (x10.length : Int) then (if rdOf false x10 x12 = true then (spec_l05Circles.l1 k x5 x6 x10 x11 (wrap64 (x12 + 1))) else (spec_l05Circles.l2 k x5 x6 x10 (wrap64 (x11 + 1)) x12 x12)) else (none)) else (none)) else (some x11)
def spec_l05Circles.l2 : Nat → Int → List Int → List Bool → Int → Int → Int → Option (Int)
  | 0, _, _, _, _, _, _ => none
  | k + 1, x5, x6, x10, x11, x12, x13 => if 0 ≤ x13 then (if x13 < (x10.length : Int) then (if rdOf false x10 x13 = true then (spec_l05Circles.l1 k x5 x6 x10 x11 (wrap64 (x12 + 1))) else (if x13 < (x6.length : Int) then (if 0 ≤ (rd x6 x13) then (if (rd x6 x13) < (x10.length : Int) then ((some ((x10.set (x13 : Int).toNat true).set ((rd x6 x13) : Int).toNat true : List Bool)).bind fun y122 => (if (Int.tmod (rd x6 x13) 2) = 1 then (if (wrap64 (2 * x5)) = 0 then (none) else (spec_l05Circles.l2 k x5 x6 y122 x11 x12 (Int.tmod (wrap64 ((rd x6 x13) + 1)) (wrap64 (2 * x5))))) else (if (wrap64 (2 * x5)) = 0 then (none) else (spec_l05Circles.l2 k x5 x6 y122 x11 x12 (Int.tmod (wrap64 ((wrap64 ((rd x6 x13) + (wrap64 (2 * x5)))) - 1)) (wrap64 (2 * x5))))))) else (none)) else (none)) else (none))) else (none)) else (none)
end
def spec_l05Circles.f (k : Nat) (l0 : List Int) (l1 : List Bool) : Option (Int) := if (l0.length : Int) = 0 then (some 1) else (if 0 ≤ (wrap64 (2 * (l0.length : Int))) then (if (wrap64 (2 * (l0.length : Int)) : Int).toNat ≤ 35184372088832 then (spec_l05Circles.l0 k l0 l1 (l0.length : Int) (List.replicate (wrap64 (2 * (l0.length : Int)) : Int).toNat 0) 0) else (none)) else (none))
theorem spec_l05Circles.mono_l : ∀ k, (∀ y0 y1 y2 y3 y4, LeO (spec_l05Circles.l0 k y0 y1 y2 y3 y4) (spec_l05Circles.l0 (k + 1) y0 y1 y2 y3 y4)) ∧ (∀ y0 y1 y2 y3 y4, LeO (spec_l05Circles.l1 k y0 y1 y2 y3 y4) (spec_l05Circles.l1 (k + 1) y0 y1 y2 y3 y4)) ∧ (∀ y0 y1 y2 y3 y4 y5, LeO (spec_l05Circles.l2 k y0 y1 y2 y3 y4 y5) (spec_l05Circles.l2 (k + 1) y0 y1 y2 y3 y4 y5))
  | 0 => ⟨fun _ _ _ _ _ r h => by simp [spec_l05Circles.l0] at h, fun _ _ _ _ _ r h => by simp [spec_l05Circles.l1] at h, fun _ _ _ _ _ _ r h => by simp [spec_l05Circles.l2] at h⟩
  | k + 1 => by
    obtain ⟨ih0, ih1, ih2⟩ := spec_l05Circles.mono_l k
    refine ⟨?_, ?_, ?_⟩
    · intro y0 y1 y2 y3 y4
      unfold spec_l05Circles.l0
      repeat' first
      | (with_reducible exact ih0 _ _ _ _ _)
      | (with_reducible exact ih1 _ _ _ _ _)
      | (with_reducible exact ih2 _ _ _ _ _ _)
      | (with_reducible exact spec_l01Places.mono _ _ _)
      | (with_reducible exact LeO.refl _)
      | (with_reducible exact LeO.none _)
      | (with_reducible refine LeO.ite ?_ ?_)
      | (with_reducible refine LeO.bind ?_ (fun _ => ?_))
      | exact ih0 _ _ _ _ _
      | exact ih1 _ _ _ _ _
      | exact ih2 _ _ _ _ _ _
      | exact spec_l01Places.mono _ _ _
      | exact LeO.none _
      | refine LeO.ite ?_ ?_
      | refine LeO.bind ?_ (fun _ => ?_)
    · intro y0 y1 y2 y3 y4
      unfold spec_l05Circles.l1
      repeat' first
      | (with_reducible exact ih0 _ _ _ _ _)
      | (with_reducible exact ih1 _ _ _ _ _)
      | (with_reducible exact ih2 _ _ _ _ _ _)
      | (with_reducible exact spec_l01Places.mono _ _ _)
      | (with_reducible exact LeO.refl _)
      | (with_reducible exact LeO.none _)
      | (with_reducible refine LeO.ite ?_ ?_)
      | (with_reducible refine LeO.bind ?_ (fun _ => ?_))
      | exact ih0 _ _ _ _ _
      | exact ih1 _ _ _ _ _
      | exact ih2 _ _ _ _ _ _
      | exact spec_l01Places.mono _ _ _
      | exact LeO.none _
      | refine LeO.ite ?_ ?_
      | refine LeO.bind ?_ (fun _ => ?_)
    · intro y0 y1 y2 y3 y4 y5
      unfold spec_l05Circles.l2
      repeat' first
      | (with_reducible exact ih0 _ _ _ _ _)
      | (with_reducible exact ih1 _ _ _ _ _)
      | (with_reducible exact ih2 _ _ _ _ _ _)
      | (with_reducible exact spec_l01Places.mono _ _ _)
      | (with_reducible exact LeO.refl _)
      | (with_reducible exact LeO.none _)
      | (with_reducible refine LeO.ite ?_ ?_)
      | (with_reducible refine LeO.bind ?_ (fun _ => ?_))
      | exact ih0 _ _ _ _ _
      | exact ih1 _ _ _ _ _
      | exact ih2 _ _ _ _ _ _
      | exact spec_l01Places.mono _ _ _
      | exact LeO.none _
      | refine LeO.ite ?_ ?_
      | refine LeO.bind ?_ (fun _ => ?_)
theorem spec_l05Circles.mono : ∀ a0 a1 k, LeO (spec_l05Circles.f k a0 a1) (spec_l05Circles.f (k + 1) a0 a1) := by
  intro a0 a1 k
  obtain ⟨ih0, ih1, ih2⟩ := spec_l05Circles.mono_l k
  unfold spec_l05Circles.f
  repeat' first
      | (with_reducible exact ih0 _ _ _ _ _)
      | (with_reducible exact ih1 _ _ _ _ _)
      | (with_reducible exact ih2 _ _ _ _ _ _)
      | (with_reducible exact spec_l01Places.mono _ _ _)
      | (with_reducible exact LeO.refl _)
      | (with_reducible exact LeO.none _)
      | (with_reducible refine LeO.ite ?_ ?_)
      | (with_reducible refine LeO.bind ?_ (fun _ => ?_))
      | exact ih0 _ _ _ _ _
      | exact ih1 _ _ _ _ _
      | exact ih2 _ _ _ _ _ _
      | exact spec_l01Places.mono _ _ _
      | exact LeO.none _
      | refine LeO.ite ?_ ?_
      | refine LeO.bind ?_ (fun _ => ?_)
set_option maxHeartbeats 8000000 in
set_option maxRecDepth 100000 in
theorem spec_l05Circles.calls (k : Nat) (A0 : Option Addr) (c0 : Nat) (l0 : List Int) (A1 : Option Addr) (c1 : Nat) (l1 : List Bool) (r : Int) (w : World) (hr0 : Kd.C (Kd.int .i64) w A0 l0.length l0) (hc0 : l0.length ≤ c0) (hr1 : Kd.C Kd.bool w A1 l1.length l1) (hc1 : l1.length ≤ c1) (h : spec_l05Circles.f k l0 l1 = some r) :
    Calls Try.prog 109 #[.slice A0 l0.length c0, .slice A1 l1.length c1] w fun e w' => e = .returned (.int .i64 r) ∧ Below w.heap.size w w' := by
  have HR0 := Aside0.mk hr0
  have HC0 := Aside0.mk hc0
  clear hr0 hc0
  have HR1 := Aside0.mk hr1
  have HC1 := Aside0.mk hc1
  clear hr1 hc1
  have HB := Aside0.mk (Below.refl w.heap.size w)
  have H : (if (l0.length : Int) = 0 then (some 1) else (if 0 ≤ (wrap64 (2 * (l0.length : Int))) then (if (wrap64 (2 * (l0.length : Int)) : Int).toNat ≤ 35184372088832 then (spec_l05Circles.l0 k l0 l1 (l0.length : Int) (List.replicate (wrap64 (2 * (l0.length : Int)) : Int).toNat 0) 0) else (none)) else (none))) = some r := h
  clear h
  by_cases c3 : (l0.length : Int) = 0
  · rw [if_pos c3] at H
    have c3b0 : ((l0.length : Int) == 0) = true := beq_iff_eq.mpr c3
    have c3b1 : ((l0.length : Int) != 0) = false := bne_eq_false_iff_eq.mpr c3
    clear c3
    obtain rfl := Option.some.inj H
    go_enter Try.func109, Try.ntmps109
    go_wp2
    go_ret
    exact ⟨by first | rfl | (simp [errW_none, errW_some] <;> rfl) | (simp [*, errW_none, errW_some] <;> rfl), by repeat (first | (with_reducible first | exact HB.out | apply below_alloc | apply pw_below_drewN | apply below_drew1) | exact HB.out)⟩
  · rw [if_neg c3] at H
    have c3b0 : ((l0.length : Int) == 0) = false := beq_eq_false_iff_ne.mpr c3
    have c3b1 : ((l0.length : Int) != 0) = true := bne_iff_ne.mpr c3
    have c3b2 : ¬ (l0 = []) := fun h_ => c3 (by rw [h_]; rfl)
    obtain ⟨ji4, hji4⟩ : ∃ j_ : Int, (wrap64 (2 * (l0.length : Int))) = j_ := ⟨_, rfl⟩
    replace H : (if 0 ≤ (ji4) then (if (ji4 : Int).toNat ≤ 35184372088832 then (spec_l05Circles.l0 k l0 l1 (l0.length : Int) (List.replicate (ji4 : Int).toNat 0) 0) else (none)) else (none)) = some r := by first | (rw [hji4] at H; exact H) | (simp only [hji4] at H ⊢; exact H)
    have hji4w : (IntKind.i64.wrap (2 * (l0.length : Int))) = ji4 := (i64_w _).trans hji4
    by_cases c5 : 0 ≤ (ji4)
    · rw [if_pos c5] at H
      have c5b0 := eq_true c5
      have c5b1 : decide (0 ≤ (ji4)) = true := decide_eq_true c5
      clear c5
      by_cases c6 : (ji4 : Int).toNat ≤ 35184372088832
      · rw [if_pos c6] at H
        have c6b0 := eq_true c6
        have c6b1 : decide ((ji4 : Int).toNat ≤ 35184372088832) = true := decide_eq_true c6
        clear c6
        obtain ⟨y101, hy101⟩ : ∃ y_ : List Int, y_ = (List.replicate (ji4 : Int).toNat 0) := ⟨_, rfl⟩
        replace H : (spec_l05Circles.l0 k l0 l1 (l0.length : Int) y101 0) = some r := by first | (rw [hy101]; with_reducible exact H) | (have H2_ := (Option.bind_some _ _).symm.trans H; rw [hy101]; with_reducible exact H2_) | (have H2_ := (Option.bind_some _ _).symm.trans H; with_reducible exact H2_) | with_reducible exact H | (rw [hy101]; exact H) | exact H
        have Ny101 := Aside0.mk hy101
        clear hy101
        have H' := Aside0.mk H
        clear H
        go_enter Try.func109, Try.ntmps109
        go_wp2_with (first | ((with_reducible refine gate_dst (N := 20) rfl ?_); refine Kd.R_make (Kd.int .i64) _ 2 rfl (N := 20) rfl 28 _ _ rfl ji4 rfl rfl Try.underlying28 (.int .i64 0) 8 info2 rfl (by decide) (by omega) 0 (ok := fun _ => True) (okp := fun _ => True) rfl (fun _ hk => hk) trivial (of_decide_eq_true (by first | (with_reducible assumption) | assumption)) (Nat.le_trans (Nat.mul_le_mul_right _ (of_decide_eq_true (by first | (with_reducible assumption) | assumption) : ji4.toNat ≤ 35184372088832)) (by omega)) (Below.refl _ _) (Nat.le_refl _) ?_; intro v102 w7 ho8 hb hg_ hnew_; clear hg_ hnew_; (first | rw [← Ny101.out] at ho8 | (simp only [Int.reduceToNat] at ho8; rw [← Ny101.out] at ho8)); have n0_ := Aside0.mk (Kd.R_lower ho8 (below_size (by repeat (first | (with_reducible first | exact HB.out | apply below_alloc | apply pw_below_drewN | apply below_drew1) | exact HB.out)))); have n1_ := Aside0.mk (below_step (by repeat (first | (with_reducible first | exact HB.out | apply below_alloc | apply pw_below_drewN | apply below_drew1) | exact HB.out)) hb); clear HB; have HO103 := n0_; have HB := n1_; clear n0_ n1_; clear hb ho8))
        go_loopg [7] k (fun kq v7 w' => ∃ (x6_1 : List Int) (x7_1 : Int), v7 = .int .i64 x7_1 ∧ Aside0 (spec_l05Circles.l0 kq l0 l1 (l0.length : Int) x6_1 x7_1 = some r) ∧ Aside0 (kq ≤ k) ∧ Aside0 (Kd.R (Kd.int .i64) 2 w' w.heap.size (fun _ => True) v102 x6_1) ∧ Aside0 (Below w.heap.size w w'))
        case atStart => exact ⟨(y101), (0), (by first | rfl | (simp; done) | (simp [*]; done)), H', ⟨Nat.le_refl _⟩, ⟨by (with_reducible repeat (first | apply Kd.R_alloc | apply Kd.R_drewN | apply Kd.R_drew)); exact HO103.out⟩, ⟨by repeat (first | (with_reducible first | exact HB.out | apply below_alloc | apply pw_below_drewN | apply below_drew1) | exact HB.out)⟩⟩
        case round =>
          clear H'
          try clear c1
          try clear p2
          try clear c3
          try clear c3b0
          try clear c3b1
          try clear c3b2
          try clear c5
          try clear c5b0
          try clear c5b1
          try clear c6
          try clear c6b0
          try clear c6b1
          try clear p6
          obtain ⟨x6_1, x7_1, rfl, HA, HK1, HO_6, HB⟩ := hrel
          cases gk with
          | zero => exact absurd HA.out (by simp [spec_l05Circles.l0])
          | succ k1 =>
            have H := HA.out
            clear HA
            simp only [spec_l05Circles.l0] at H
            by_cases c9 : x7_1 < (wrap64 (Int.tdiv (l0.length : Int) 2))
            · rw [if_pos c9] at H
              have c9b0 : decide (x7_1 < (wrap64 (Int.tdiv (l0.length : Int) 2))) = true := decide_eq_true c9
              rw [Int.tdiv_eq_ediv_of_nonneg (by omega)] at c9b0
              clear c9
              replace H := Option.bind_eq_some_iff.mp H
              obtain ⟨⟨t104, t105⟩, A100, H⟩ := H
              replace H : (if 0 ≤ x7_1 then (if x7_1 < (l1.length : Int) then (if rdOf false l1 x7_1 = true then (if 0 ≤ (wrap64 (2 * t104)) then (if (wrap64 (2 * t104)) < (x6_1.length : Int) then (if 0 ≤ (wrap64 (2 * t105)) then (if (wrap64 (2 * t105)) < (x6_1.length : Int) then (if 0 ≤ (wrap64 ((wrap64 (2 * t104)) + 1)) then (if (wrap64 ((wrap64 (2 * t104)) + 1)) < (x6_1.length : Int) then (if 0 ≤ (wrap64 ((wrap64 (2 * t105)) + 1)) then (if (wrap64 ((wrap64 (2 * t105)) + 1)) < (x6_1.length : Int) then (spec_l05Circles.l0 k1 l0 l1 (l0.length : Int) ((((x6_1.set ((wrap64 (2 * t104)) : Int).toNat (wrap64 (2 * t105))).set ((wrap64 (2 * t105)) : Int).toNat (wrap64 (2 * t104))).set ((wrap64 ((wrap64 (2 * t104)) + 1)) : Int).toNat (wrap64 ((wrap64 (2 * t105)) + 1))).set ((wrap64 ((wrap64 (2 * t105)) + 1)) : Int).toNat (wrap64 ((wrap64 (2 * t104)) + 1))) (wrap64 (x7_1 + 1))) else (none)) else (none)) else (none)) else (none)) else (none)) else (none)) else (none)) else (none)) else (if 0 ≤ (wrap64 (2 * t104)) then (if (wrap64 (2 * t104)) < (x6_1.length : Int) then (if 0 ≤ (wrap64 ((wrap64 (2 * t105)) + 1)) then (if (wrap64 ((wrap64 (2 * t105)) + 1)) < (x6_1.length : Int) then (if 0 ≤ (wrap64 ((wrap64 (2 * t104)) + 1)) then (if (wrap64 ((wrap64 (2 * t104)) + 1)) < (x6_1.length : Int) then (if 0 ≤ (wrap64 (2 * t105)) then (if (wrap64 (2 * t105)) < (x6_1.length : Int) then (spec_l05Circles.l0 k1 l0 l1 (l0.length : Int) ((((x6_1.set ((wrap64 (2 * t104)) : Int).toNat (wrap64 ((wrap64 (2 * t105)) + 1))).set ((wrap64 ((wrap64 (2 * t105)) + 1)) : Int).toNat (wrap64 (2 * t104))).set ((wrap64 ((wrap64 (2 * t104)) + 1)) : Int).toNat (wrap64 (2 * t105))).set ((wrap64 (2 * t105)) : Int).toNat (wrap64 ((wrap64 (2 * t104)) + 1))) (wrap64 (x7_1 + 1))) else (none)) else (none)) else (none)) else (none)) else (none)) else (none)) else (none)) else (none))) else (none)) else (none)) = some r := H
              have A10 := Aside0.mk A100
              clear A100
              by_cases c11 : 0 ≤ x7_1
              · rw [if_pos c11] at H
                have c11b0 : decide (0 ≤ x7_1) = true := decide_eq_true c11
                clear c11
                by_cases c12 : x7_1 < (l1.length : Int)
                · rw [if_pos c12] at H
                  have c12b0 : decide (x7_1 < (l1.length : Int)) = true := decide_eq_true c12
                  clear c12
                  obtain ⟨bq13, hbq13⟩ : ∃ b_ : Bool, b_ = (rdOf false l1 x7_1) := ⟨_, rfl⟩
                  replace H : (if bq13 = true then (if 0 ≤ (wrap64 (2 * t104)) then (if (wrap64 (2 * t104)) < (x6_1.length : Int) then (if 0 ≤ (wrap64 (2 * t105)) then (if (wrap64 (2 * t105)) < (x6_1.length : Int) then (if 0 ≤ (wrap64 ((wrap64 (2 * t104)) + 1)) then (if (wrap64 ((wrap64 (2 * t104)) + 1)) < (x6_1.length : Int) then (if 0 ≤ (wrap64 ((wrap64 (2 * t105)) + 1)) then (if (wrap64 ((wrap64 (2 * t105)) + 1)) < (x6_1.length : Int) then (spec_l05Circles.l0 k1 l0 l1 (l0.length : Int) ((((x6_1.set ((wrap64 (2 * t104)) : Int).toNat (wrap64 (2 * t105))).set ((wrap64 (2 * t105)) : Int).toNat (wrap64 (2 * t104))).set ((wrap64 ((wrap64 (2 * t104)) + 1)) : Int).toNat (wrap64 ((wrap64 (2 * t105)) + 1))).set ((wrap64 ((wrap64 (2 * t105)) + 1)) : Int).toNat (wrap64 ((wrap64 (2 * t104)) + 1))) (wrap64 (x7_1 + 1))) else (none)) else (none)) else (none)) else (none)) else (none)) else (none)) else (none)) else (none)) else (if 0 ≤ (wrap64 (2 * t104)) then (if (wrap64 (2 * t104)) < (x6_1.length : Int) then (if 0 ≤ (wrap64 ((wrap64 (2 * t105)) + 1)) then (if (wrap64 ((wrap64 (2 * t105)) + 1)) < (x6_1.length : Int) then (if 0 ≤ (wrap64 ((wrap64 (2 * t104)) + 1)) then (if (wrap64 ((wrap64 (2 * t104)) + 1)) < (x6_1.length : Int) then (if 0 ≤ (wrap64 (2 * t105)) then (if (wrap64 (2 * t105)) < (x6_1.length : Int) then (spec_l05Circles.l0 k1 l0 l1 (l0.length : Int) ((((x6_1.set ((wrap64 (2 * t104)) : Int).toNat (wrap64 ((wrap64 (2 * t105)) + 1))).set ((wrap64 ((wrap64 (2 * t105)) + 1)) : Int).toNat (wrap64 (2 * t104))).set ((wrap64 ((wrap64 (2 * t104)) + 1)) : Int).toNat (wrap64 (2 * t105))).set ((wrap64 (2 * t105)) : Int).toNat (wrap64 ((wrap64 (2 * t104)) + 1))) (wrap64 (x7_1 + 1))) else (none)) else (none)) else (none)) else (none)) else (none)) else (none)) else (none)) else (none))) = some r := by rw [← hbq13] at H; exact H
                  have Nbq13 := Aside0.mk hbq13
                  clear hbq13
                  by_cases c14 : bq13 = true
                  · subst c14
                    have H1 : (if 0 ≤ (wrap64 (2 * t104)) then (if (wrap64 (2 * t104)) < (x6_1.length : Int) then (if 0 ≤ (wrap64 (2 * t105)) then (if (wrap64 (2 * t105)) < (x6_1.length : Int) then (if 0 ≤ (wrap64 ((wrap64 (2 * t104)) + 1)) then (if (wrap64 ((wrap64 (2 * t104)) + 1)) < (x6_1.length : Int) then (if 0 ≤ (wrap64 ((wrap64 (2 * t105)) + 1)) then (if (wrap64 ((wrap64 (2 * t105)) + 1)) < (x6_1.length : Int) then (spec_l05Circles.l0 k1 l0 l1 (l0.length : Int) ((((x6_1.set ((wrap64 (2 * t104)) : Int).toNat (wrap64 (2 * t105))).set ((wrap64 (2 * t105)) : Int).toNat (wrap64 (2 * t104))).set ((wrap64 ((wrap64 (2 * t104)) + 1)) : Int).toNat (wrap64 ((wrap64 (2 * t105)) + 1))).set ((wrap64 ((wrap64 (2 * t105)) + 1)) : Int).toNat (wrap64 ((wrap64 (2 * t104)) + 1))) (wrap64 (x7_1 + 1))) else (none)) else (none)) else (none)) else (none)) else (none)) else (none)) else (none)) else (none)) = some r := by rw [if_pos rfl] at H; exact H
                    clear H
                    have H := H1
                    clear H1
                    obtain ⟨ji15, hji15⟩ : ∃ j_ : Int, (wrap64 (2 * t104)) = j_ := ⟨_, rfl⟩
                    replace H : (if 0 ≤ (ji15) then (if (ji15) < (x6_1.length : Int) then (if 0 ≤ (wrap64 (2 * t105)) then (if (wrap64 (2 * t105)) < (x6_1.length : Int) then (if 0 ≤ (wrap64 ((ji15) + 1)) then (if (wrap64 ((ji15) + 1)) < (x6_1.length : Int) then (if 0 ≤ (wrap64 ((wrap64 (2 * t105)) + 1)) then (if (wrap64 ((wrap64 (2 * t105)) + 1)) < (x6_1.length : Int) then (spec_l05Circles.l0 k1 l0 l1 (l0.length : Int) ((((x6_1.set ((ji15) : Int).toNat (wrap64 (2 * t105))).set ((wrap64 (2 * t105)) : Int).toNat (ji15)).set ((wrap64 ((ji15) + 1)) : Int).toNat (wrap64 ((wrap64 (2 * t105)) + 1))).set ((wrap64 ((wrap64 (2 * t105)) + 1)) : Int).toNat (wrap64 ((ji15) + 1))) (wrap64 (x7_1 + 1))) else (none)) else (none)) else (none)) else (none)) else (none)) else (none)) else (none)) else (none)) = some r := by first | (rw [hji15] at H; exact H) | (simp only [hji15] at H ⊢; exact H)
                    (try rw [hji15] at A10)
                    have hji15w : (IntKind.i64.wrap (2 * t104)) = ji15 := (i64_w _).trans hji15
                    by_cases c16 : 0 ≤ (ji15)
                    · rw [if_pos c16] at H
                      have c16b0 : decide (0 ≤ (ji15)) = true := decide_eq_true c16
                      clear c16
                      by_cases c17 : (ji15) < (x6_1.length : Int)
                      · rw [if_pos c17] at H
                        have c17b0 : decide ((ji15) < (x6_1.length : Int)) = true := decide_eq_true c17
                        clear c17
                        obtain ⟨y107, hy107⟩ : ∃ y_ : List Int, y_ = (x6_1.set ((ji15) : Int).toNat (wrap64 (2 * t105))) := ⟨_, rfl⟩
                        replace H : (if 0 ≤ (wrap64 (2 * t105)) then (if (wrap64 (2 * t105)) < (x6_1.length : Int) then (if 0 ≤ (wrap64 ((ji15) + 1)) then (if (wrap64 ((ji15) + 1)) < (x6_1.length : Int) then (if 0 ≤ (wrap64 ((wrap64 (2 * t105)) + 1)) then (if (wrap64 ((wrap64 (2 * t105)) + 1)) < (x6_1.length : Int) then (spec_l05Circles.l0 k1 l0 l1 (l0.length : Int) (((y107.set ((wrap64 (2 * t105)) : Int).toNat (ji15)).set ((wrap64 ((ji15) + 1)) : Int).toNat (wrap64 ((wrap64 (2 * t105)) + 1))).set ((wrap64 ((wrap64 (2 * t105)) + 1)) : Int).toNat (wrap64 ((ji15) + 1))) (wrap64 (x7_1 + 1))) else (none)) else (none)) else (none)) else (none)) else (none)) else (none)) = some r := by first | (rw [hy107]; with_reducible exact H) | (have H2_ := (Option.bind_some _ _).symm.trans H; rw [hy107]; with_reducible exact H2_) | (have H2_ := (Option.bind_some _ _).symm.trans H; with_reducible exact H2_) | with_reducible exact H | (rw [hy107]; exact H) | exact H
                        have Ny107 := Aside0.mk hy107
                        clear hy107
                        obtain ⟨ji19, hji19⟩ : ∃ j_ : Int, (wrap64 (2 * t105)) = j_ := ⟨_, rfl⟩
                        replace H : (if 0 ≤ (ji19) then (if (ji19) < (x6_1.length : Int) then (if 0 ≤ (wrap64 ((ji15) + 1)) then (if (wrap64 ((ji15) + 1)) < (x6_1.length : Int) then (if 0 ≤ (wrap64 ((ji19) + 1)) then (if (wrap64 ((ji19) + 1)) < (x6_1.length : Int) then (spec_l05Circles.l0 k1 l0 l1 (l0.length : Int) (((y107.set ((ji19) : Int).toNat (ji15)).set ((wrap64 ((ji15) + 1)) : Int).toNat (wrap64 ((ji19) + 1))).set ((wrap64 ((ji19) + 1)) : Int).toNat (wrap64 ((ji15) + 1))) (wrap64 (x7_1 + 1))) else (none)) else (none)) else (none)) else (none)) else (none)) else (none)) = some r := by first | (rw [hji19] at H; exact H) | (simp only [hji19] at H ⊢; exact H)
                        (try rw [hji19] at A10)
                        (try rw [hji19] at Ny107)
                        have hji19w : (IntKind.i64.wrap (2 * t105)) = ji19 := (i64_w _).trans hji19
                        by_cases c20 : 0 ≤ (ji19)
                        · rw [if_pos c20] at H
                          have c20b0 : decide (0 ≤ (ji19)) = true := decide_eq_true c20
                          clear c20
                          by_cases c21 : (ji19) < (x6_1.length : Int)
                          · rw [if_pos c21] at H
                            have c21b0 : decide ((ji19) < (x6_1.length : Int)) = true := decide_eq_true c21
                            clear c21
                            obtain ⟨y108, hy108⟩ : ∃ y_ : List Int, y_ = (y107.set ((ji19) : Int).toNat (ji15)) := ⟨_, rfl⟩
                            replace H : (if 0 ≤ (wrap64 ((ji15) + 1)) then (if (wrap64 ((ji15) + 1)) < (x6_1.length : Int) then (if 0 ≤ (wrap64 ((ji19) + 1)) then (if (wrap64 ((ji19) + 1)) < (x6_1.length : Int) then (spec_l05Circles.l0 k1 l0 l1 (l0.length : Int) ((y108.set ((wrap64 ((ji15) + 1)) : Int).toNat (wrap64 ((ji19) + 1))).set ((wrap64 ((ji19) + 1)) : Int).toNat (wrap64 ((ji15) + 1))) (wrap64 (x7_1 + 1))) else (none)) else (none)) else (none)) else (none)) = some r := by first | (rw [hy108]; with_reducible exact H) | (have H2_ := (Option.bind_some _ _).symm.trans H; rw [hy108]; with_reducible exact H2_) | (have H2_ := (Option.bind_some _ _).symm.trans H; with_reducible exact H2_) | with_reducible exact H | (rw [hy108]; exact H) | exact H
                            have Ny108 := Aside0.mk hy108
                            clear hy108
                            obtain ⟨ji23, hji23⟩ : ∃ j_ : Int, (wrap64 ((ji15) + 1)) = j_ := ⟨_, rfl⟩
                            replace H : (if 0 ≤ (ji23) then (if (ji23) < (x6_1.length : Int) then (if 0 ≤ (wrap64 ((ji19) + 1)) then (if (wrap64 ((ji19) + 1)) < (x6_1.length : Int) then (spec_l05Circles.l0 k1 l0 l1 (l0.length : Int) ((y108.set ((ji23) : Int).toNat (wrap64 ((ji19) + 1))).set ((wrap64 ((ji19) + 1)) : Int).toNat (ji23)) (wrap64 (x7_1 + 1))) else (none)) else (none)) else (none)) else (none)) = some r := by first | (rw [hji23] at H; exact H) | (simp only [hji23] at H ⊢; exact H)
                            (try rw [hji23] at A10)
                            have hji23w : (IntKind.i64.wrap ((ji15) + 1)) = ji23 := (i64_w _).trans hji23
                            by_cases c24 : 0 ≤ (ji23)
                            · rw [if_pos c24] at H
                              have c24b0 : decide (0 ≤ (ji23)) = true := decide_eq_true c24
                              clear c24
                              by_cases c25 : (ji23) < (x6_1.length : Int)
                              · rw [if_pos c25] at H
                                have c25b0 : decide ((ji23) < (x6_1.length : Int)) = true := decide_eq_true c25
                                clear c25
                                obtain ⟨y109, hy109⟩ : ∃ y_ : List Int, y_ = (y108.set ((ji23) : Int).toNat (wrap64 ((ji19) + 1))) := ⟨_, rfl⟩
                                replace H : (if 0 ≤ (wrap64 ((ji19) + 1)) then (if (wrap64 ((ji19) + 1)) < (x6_1.length : Int) then (spec_l05Circles.l0 k1 l0 l1 (l0.length : Int) (y109.set ((wrap64 ((ji19) + 1)) : Int).toNat (ji23)) (wrap64 (x7_1 + 1))) else (none)) else (none)) = some r := by first | (rw [hy109]; with_reducible exact H) | (have H2_ := (Option.bind_some _ _).symm.trans H; rw [hy109]; with_reducible exact H2_) | (have H2_ := (Option.bind_some _ _).symm.trans H; with_reducible exact H2_) | with_reducible exact H | (rw [hy109]; exact H) | exact H
                                have Ny109 := Aside0.mk hy109
                                clear hy109
                                obtain ⟨ji27, hji27⟩ : ∃ j_ : Int, (wrap64 ((ji19) + 1)) = j_ := ⟨_, rfl⟩
                                replace H : (if 0 ≤ (ji27) then (if (ji27) < (x6_1.length : Int) then (spec_l05Circles.l0 k1 l0 l1 (l0.length : Int) (y109.set ((ji27) : Int).toNat (ji23)) (wrap64 (x7_1 + 1))) else (none)) else (none)) = some r := by first | (rw [hji27] at H; exact H) | (simp only [hji27] at H ⊢; exact H)
                                (try rw [hji27] at A10)
                                (try rw [hji27] at Ny109)
                                have hji27w : (IntKind.i64.wrap ((ji19) + 1)) = ji27 := (i64_w _).trans hji27
                                by_cases c28 : 0 ≤ (ji27)
                                · rw [if_pos c28] at H
                                  have c28b0 : decide (0 ≤ (ji27)) = true := decide_eq_true c28
                                  clear c28
                                  by_cases c29 : (ji27) < (x6_1.length : Int)
                                  · rw [if_pos c29] at H
                                    have c29b0 : decide ((ji27) < (x6_1.length : Int)) = true := decide_eq_true c29
                                    clear c29
                                    obtain ⟨y110, hy110⟩ : ∃ y_ : List Int, y_ = (y109.set ((ji27) : Int).toNat (ji23)) := ⟨_, rfl⟩
                                    replace H : (spec_l05Circles.l0 k1 l0 l1 (l0.length : Int) y110 (wrap64 (x7_1 + 1))) = some r := by first | (rw [hy110]; with_reducible exact H) | (have H2_ := (Option.bind_some _ _).symm.trans H; rw [hy110]; with_reducible exact H2_) | (have H2_ := (Option.bind_some _ _).symm.trans H; with_reducible exact H2_) | with_reducible exact H | (rw [hy110]; exact H) | exact H
                                    have Ny110 := Aside0.mk hy110
                                    clear hy110
                                    have H' := Aside0.mk H
                                    clear H
                                    go_wp2_with (first | ((with_reducible refine gate_callee (f := 142) rfl ?_); refine goesL_ (some 30) rfl rfl Try.func142 (by kernel_rfl) rfl #[.slice A0 l0.length c0, .int .i64 x7_1] rfl (by (try simp only [List.map_toArray, List.map_cons, List.map_nil]); first | done | rfl | (simp only [List.length_drop, List.length_take]; rfl)) ?_; (with_reducible refine (spec_l01Places.calls k1 _ _ l0 x7_1 t104 t105 _ ?side1 ?side2 A10.out).mono ?_); (case side1 => repeat (first | exact (Kd.C_below HR0.out HB.out) | (with_reducible refine Kd.C_alloc ?_ _) | (with_reducible refine Kd.C_drewN ?_ _) | (with_reducible refine Kd.C_drew ?_))); (case side2 => exact HC0.out); rintro e w' ⟨rfl, ⟨nd, rfl⟩⟩; refine ⟨_, rfl, ?_⟩; (try (rw [drewN_self wr]; generalize hq_ : World.drewN wr _ = wr; have n0_ : Aside0 (Kd.R (Kd.int .i64) 2 wr w.heap.size (fun _ => True) v102 x6_1) := ⟨by rw [← hq_]; exact (by (with_reducible repeat (first | apply Kd.R_alloc | apply Kd.R_drewN | apply Kd.R_drew)); exact HO_6.out)⟩; have n1_ : Aside0 (Below w.heap.size w wr) := ⟨by rw [← hq_]; exact (by repeat (first | (with_reducible first | exact HB.out | apply below_alloc | apply pw_below_drewN | apply below_drew1) | exact HB.out))⟩; clear HO_6 HB hq_; have HO_6 := n0_; have HB := n1_; clear n0_ n1_)); have p106 : 0 ≤ (x7_1 : Int) := of_decide_eq_true (by first | (with_reducible assumption) | assumption); have q106 : x7_1 < (l1.length : Int) := of_decide_eq_true (by first | (with_reducible assumption) | assumption); obtain ⟨ad106, e106, hx106_0⟩ := Kd.at_bool HR1.out x7_1 p106 q106; (try rw [← Nbq13.out] at hx106_0); cases e106; replace hx106_0 := (HB.out.cell (World.block_lt_of_cell? w _ hx106_0)).trans hx106_0; replace p106 := eq_true p106; replace q106 := eq_true q106; have p18 : 0 ≤ ((ji15) : Int) := of_decide_eq_true (by first | (with_reducible assumption) | assumption); have q18 : ((ji15) : Int) < ((x6_1.length : Int) : Int) := of_decide_eq_true (by first | (with_reducible assumption) | assumption); obtain ⟨go18, co18, eo18, gb18, gl18, cl18, HG18⟩ := Kd.R_form HO_6.out (by omega); (first | cases eo18 | (injection eo18 with ea_ en_ ec_; (first | subst ea_ | (injection ea_ with ea_; subst ea_)); subst ec_; clear en_)); have GB18 := Aside0.mk gb18; have GG18 := Aside0.mk HG18; clear gb18 gl18 HG18; obtain ⟨hx18_0, hf18_0⟩ := Kd.R_celln 0 HO_6.out ((ji15) : Int) p18 q18; replace p18 := eq_true p18; replace q18 := eq_true q18; obtain ⟨hy31_, hz31_⟩ := Kd.R_celln 0 HO_6.out ((ji15) : Int) (of_decide_eq_true (by first | (with_reducible assumption) | assumption)) (of_decide_eq_true (by first | (with_reducible assumption) | assumption)); have HP31 := Kd.R_putg HO_6.out ((ji15) : Int) ji19) | ((with_reducible refine gate_store (t := 2) (p := 42) rfl ?_); refine store_event (t := 2) (p := 42) (v := ?vo_w32) (w1 := (wr.setCell ⟨go18, ((ji15) : Int).toNat, none⟩ (.int .i64 ji19))) ?hg ?ho ?hn ?hr ?_; (case ho => rfl); (case hg => rfl); (case hn => rfl); (case hr => first | (go_simp; done) | (go_simp; rfl)); intro w32 hw; have hg : wr.grownBy w32 (some go18) := (by rw [hw]; exact HP31.2); have hp_ : Kd.R (Kd.int .i64) 2 w32 w.heap.size (fun _ => True) (.slice (some ⟨go18, 0, none⟩) x6_1.length co18) y107 := (by rw [hw, Ny107.out]; exact HP31.1); clear HP31; have n0_ := Aside0.mk (hp_); have n1_ := Aside0.mk ((by rw [hw]; exact below_set (HB.out) GB18.out : Below w.heap.size w w32)); clear HO_6; clear HB; have HO_6 := n0_; have HB := n1_; clear n0_ n1_; clear hg hw hp_; have p22 : 0 ≤ ((ji19) : Int) := of_decide_eq_true (by first | (with_reducible assumption) | assumption); have q22 : ((ji19) : Int) < ((x6_1.length : Int) : Int) := of_decide_eq_true (by first | (with_reducible assumption) | assumption); obtain ⟨hx22_0, hf22_0⟩ := Kd.R_celln 0 HO_6.out ((ji19) : Int) p22 q22; replace p22 := eq_true p22; replace q22 := eq_true q22; obtain ⟨hy33_, hz33_⟩ := Kd.R_celln 0 HO_6.out ((ji19) : Int) (of_decide_eq_true (by first | (with_reducible assumption) | assumption)) (of_decide_eq_true (by first | (with_reducible assumption) | assumption)); have HP33 := Kd.R_putg HO_6.out ((ji19) : Int) ji15) | ((with_reducible refine gate_store (t := 2) (p := 48) rfl ?_); refine store_event (t := 2) (p := 48) (v := ?vo_w34) (w1 := (w32.setCell ⟨go18, ((ji19) : Int).toNat, none⟩ (.int .i64 ji15))) ?hg ?ho ?hn ?hr ?_; (case ho => rfl); (case hg => rfl); (case hn => rfl); (case hr => first | (go_simp; done) | (go_simp; rfl)); intro w34 hw; have hg : w32.grownBy w34 (some go18) := (by rw [hw]; exact HP33.2); have hp_ : Kd.R (Kd.int .i64) 2 w34 w.heap.size (fun _ => True) (.slice (some ⟨go18, 0, none⟩) x6_1.length co18) y108 := (by rw [hw, Ny108.out]; exact HP33.1); clear HP33; have n0_ := Aside0.mk (hp_); have n1_ := Aside0.mk ((by rw [hw]; exact below_set (HB.out) GB18.out : Below w.heap.size w w34)); clear HO_6; clear HB; have HO_6 := n0_; have HB := n1_; clear n0_ n1_; clear hg hw hp_; have p26 : 0 ≤ ((ji23) : Int) := of_decide_eq_true (by first | (with_reducible assumption) | assumption); have q26 : ((ji23) : Int) < ((x6_1.length : Int) : Int) := of_decide_eq_true (by first | (with_reducible assumption) | assumption); obtain ⟨hx26_0, hf26_0⟩ := Kd.R_celln 0 HO_6.out ((ji23) : Int) p26 q26; replace p26 := eq_true p26; replace q26 := eq_true q26; obtain ⟨hy35_, hz35_⟩ := Kd.R_celln 0 HO_6.out ((ji23) : Int) (of_decide_eq_true (by first | (with_reducible assumption) | assumption)) (of_decide_eq_true (by first | (with_reducible assumption) | assumption)); have HP35 := Kd.R_putg HO_6.out ((ji23) : Int) ji27) | ((with_reducible refine gate_store (t := 2) (p := 56) rfl ?_); refine store_event (t := 2) (p := 56) (v := ?vo_w36) (w1 := (w34.setCell ⟨go18, ((ji23) : Int).toNat, none⟩ (.int .i64 ji27))) ?hg ?ho ?hn ?hr ?_; (case ho => rfl); (case hg => rfl); (case hn => rfl); (case hr => first | (go_simp; done) | (go_simp; rfl)); intro w36 hw; have hg : w34.grownBy w36 (some go18) := (by rw [hw]; exact HP35.2); have hp_ : Kd.R (Kd.int .i64) 2 w36 w.heap.size (fun _ => True) (.slice (some ⟨go18, 0, none⟩) x6_1.length co18) y109 := (by rw [hw, Ny109.out]; exact HP35.1); clear HP35; have n0_ := Aside0.mk (hp_); have n1_ := Aside0.mk ((by rw [hw]; exact below_set (HB.out) GB18.out : Below w.heap.size w w36)); clear HO_6; clear HB; have HO_6 := n0_; have HB := n1_; clear n0_ n1_; clear hg hw hp_; have p30 : 0 ≤ ((ji27) : Int) := of_decide_eq_true (by first | (with_reducible assumption) | assumption); have q30 : ((ji27) : Int) < ((x6_1.length : Int) : Int) := of_decide_eq_true (by first | (with_reducible assumption) | assumption); obtain ⟨hx30_0, hf30_0⟩ := Kd.R_celln 0 HO_6.out ((ji27) : Int) p30 q30; replace p30 := eq_true p30; replace q30 := eq_true q30; obtain ⟨hy37_, hz37_⟩ := Kd.R_celln 0 HO_6.out ((ji27) : Int) (of_decide_eq_true (by first | (with_reducible assumption) | assumption)) (of_decide_eq_true (by first | (with_reducible assumption) | assumption)); have HP37 := Kd.R_putg HO_6.out ((ji27) : Int) ji23) | ((with_reducible refine gate_store (t := 2) (p := 64) rfl ?_); refine store_event (t := 2) (p := 64) (v := ?vo_w38) (w1 := (w36.setCell ⟨go18, ((ji27) : Int).toNat, none⟩ (.int .i64 ji23))) ?hg ?ho ?hn ?hr ?_; (case ho => rfl); (case hg => rfl); (case hn => rfl); (case hr => first | (go_simp; done) | (go_simp; rfl)); intro w38 hw; have hg : w36.grownBy w38 (some go18) := (by rw [hw]; exact HP37.2); have hp_ : Kd.R (Kd.int .i64) 2 w38 w.heap.size (fun _ => True) (.slice (some ⟨go18, 0, none⟩) x6_1.length co18) y110 := (by rw [hw, Ny110.out]; exact HP37.1); clear HP37; have n0_ := Aside0.mk (hp_); have n1_ := Aside0.mk ((by rw [hw]; exact below_set (HB.out) GB18.out : Below w.heap.size w w38)); clear HO_6; clear HB; have HO_6 := n0_; have HB := n1_; clear n0_ n1_; clear hg hw hp_))
                                    go_roundg k1
                                    case measure => have := HK1.out; omega
                                    case rel => exact ⟨(y110), (wrap64 (x7_1 + 1)), (by first | rfl | (simp; done) | (simp [*]; done)), H', ⟨by have := HK1.out; omega⟩, ⟨by (with_reducible repeat (first | apply Kd.R_alloc | apply Kd.R_drewN | apply Kd.R_drew)); exact HO_6.out⟩, ⟨by repeat (first | (with_reducible first | exact HB.out | apply below_alloc | apply pw_below_drewN | apply below_drew1) | exact HB.out)⟩⟩
                                  · rw [if_neg c29] at H
                                    exact absurd H (by simp)
                                · rw [if_neg c28] at H
                                  exact absurd H (by simp)
                              · rw [if_neg c25] at H
                                exact absurd H (by simp)
                            · rw [if_neg c24] at H
                              exact absurd H (by simp)
                          · rw [if_neg c21] at H
                            exact absurd H (by simp)
                        · rw [if_neg c20] at H
                          exact absurd H (by simp)
                      · rw [if_neg c17] at H
                        exact absurd H (by simp)
                    · rw [if_neg c16] at H
                      exact absurd H (by simp)
                  · replace c14 := Bool.eq_false_iff.mpr c14
                    subst c14
                    have H1 : (if 0 ≤ (wrap64 (2 * t104)) then (if (wrap64 (2 * t104)) < (x6_1.length : Int) then (if 0 ≤ (wrap64 ((wrap64 (2 * t105)) + 1)) then (if (wrap64 ((wrap64 (2 * t105)) + 1)) < (x6_1.length : Int) then (if 0 ≤ (wrap64 ((wrap64 (2 * t104)) + 1)) then (if (wrap64 ((wrap64 (2 * t104)) + 1)) < (x6_1.length : Int) then (if 0 ≤ (wrap64 (2 * t105)) then (if (wrap64 (2 * t105)) < (x6_1.length : Int) then (spec_l05Circles.l0 k1 l0 l1 (l0.length : Int) ((((x6_1.set ((wrap64 (2 * t104)) : Int).toNat (wrap64 ((wrap64 (2 * t105)) + 1))).set ((wrap64 ((wrap64 (2 * t105)) + 1)) : Int).toNat (wrap64 (2 * t104))).set ((wrap64 ((wrap64 (2 * t104)) + 1)) : Int).toNat (wrap64 (2 * t105))).set ((wrap64 (2 * t105)) : Int).toNat (wrap64 ((wrap64 (2 * t104)) + 1))) (wrap64 (x7_1 + 1))) else (none)) else (none)) else (none)) else (none)) else (none)) else (none)) else (none)) else (none)) = some r := by rw [if_neg (show ¬ (false = true) by decide)] at H; exact H
                    clear H
                    have H := H1
                    clear H1
                    obtain ⟨ji39, hji39⟩ : ∃ j_ : Int, (wrap64 (2 * t104)) = j_ := ⟨_, rfl⟩
                    replace H : (if 0 ≤ (ji39) then (if (ji39) < (x6_1.length : Int) then (if 0 ≤ (wrap64 ((wrap64 (2 * t105)) + 1)) then (if (wrap64 ((wrap64 (2 * t105)) + 1)) < (x6_1.length : Int) then (if 0 ≤ (wrap64 ((ji39) + 1)) then (if (wrap64 ((ji39) + 1)) < (x6_1.length : Int) then (if 0 ≤ (wrap64 (2 * t105)) then (if (wrap64 (2 * t105)) < (x6_1.length : Int) then (spec_l05Circles.l0 k1 l0 l1 (l0.length : Int) ((((x6_1.set ((ji39) : Int).toNat (wrap64 ((wrap64 (2 * t105)) + 1))).set ((wrap64 ((wrap64 (2 * t105)) + 1)) : Int).toNat (ji39)).set ((wrap64 ((ji39) + 1)) : Int).toNat (wrap64 (2 * t105))).set ((wrap64 (2 * t105)) : Int).toNat (wrap64 ((ji39) + 1))) (wrap64 (x7_1 + 1))) else (none)) else (none)) else (none)) else (none)) else (none)) else (none)) else (none)) else (none)) = some r := by first | (rw [hji39] at H; exact H) | (simp only [hji39] at H ⊢; exact H)
                    (try rw [hji39] at A10)
                    have hji39w : (IntKind.i64.wrap (2 * t104)) = ji39 := (i64_w _).trans hji39
                    by_cases c40 : 0 ≤ (ji39)
                    · rw [if_pos c40] at H
                      have c40b0 : decide (0 ≤ (ji39)) = true := decide_eq_true c40
                      clear c40
                      by_cases c41 : (ji39) < (x6_1.length : Int)
                      · rw [if_pos c41] at H
                        have c41b0 : decide ((ji39) < (x6_1.length : Int)) = true := decide_eq_true c41
                        clear c41
                        obtain ⟨y111, hy111⟩ : ∃ y_ : List Int, y_ = (x6_1.set ((ji39) : Int).toNat (wrap64 ((wrap64 (2 * t105)) + 1))) := ⟨_, rfl⟩
                        replace H : (if 0 ≤ (wrap64 ((wrap64 (2 * t105)) + 1)) then (if (wrap64 ((wrap64 (2 * t105)) + 1)) < (x6_1.length : Int) then (if 0 ≤ (wrap64 ((ji39) + 1)) then (if (wrap64 ((ji39) + 1)) < (x6_1.length : Int) then (if 0 ≤ (wrap64 (2 * t105)) then (if (wrap64 (2 * t105)) < (x6_1.length : Int) then (spec_l05Circles.l0 k1 l0 l1 (l0.length : Int) (((y111.set ((wrap64 ((wrap64 (2 * t105)) + 1)) : Int).toNat (ji39)).set ((wrap64 ((ji39) + 1)) : Int).toNat (wrap64 (2 * t105))).set ((wrap64 (2 * t105)) : Int).toNat (wrap64 ((ji39) + 1))) (wrap64 (x7_1 + 1))) else (none)) else (none)) else (none)) else (none)) else (none)) else (none)) = some r := by first | (rw [hy111]; with_reducible exact H) | (have H2_ := (Option.bind_some _ _).symm.trans H; rw [hy111]; with_reducible exact H2_) | (have H2_ := (Option.bind_some _ _).symm.trans H; with_reducible exact H2_) | with_reducible exact H | (rw [hy111]; exact H) | exact H
                        have Ny111 := Aside0.mk hy111
                        clear hy111
                        obtain ⟨ji43, hji43⟩ : ∃ j_ : Int, (wrap64 ((wrap64 (2 * t105)) + 1)) = j_ := ⟨_, rfl⟩
                        replace H : (if 0 ≤ (ji43) then (if (ji43) < (x6_1.length : Int) then (if 0 ≤ (wrap64 ((ji39) + 1)) then (if (wrap64 ((ji39) + 1)) < (x6_1.length : Int) then (if 0 ≤ (wrap64 (2 * t105)) then (if (wrap64 (2 * t105)) < (x6_1.length : Int) then (spec_l05Circles.l0 k1 l0 l1 (l0.length : Int) (((y111.set ((ji43) : Int).toNat (ji39)).set ((wrap64 ((ji39) + 1)) : Int).toNat (wrap64 (2 * t105))).set ((wrap64 (2 * t105)) : Int).toNat (wrap64 ((ji39) + 1))) (wrap64 (x7_1 + 1))) else (none)) else (none)) else (none)) else (none)) else (none)) else (none)) = some r := by first | (rw [hji43] at H; exact H) | (simp only [hji43] at H ⊢; exact H)
                        (try rw [hji43] at A10)
                        (try rw [hji43] at Ny111)
                        have hji43w : (IntKind.i64.wrap ((wrap64 (2 * t105)) + 1)) = ji43 := (i64_w _).trans hji43
                        by_cases c44 : 0 ≤ (ji43)
                        · rw [if_pos c44] at H
                          have c44b0 : decide (0 ≤ (ji43)) = true := decide_eq_true c44
                          clear c44
                          by_cases c45 : (ji43) < (x6_1.length : Int)
                          · rw [if_pos c45] at H
                            have c45b0 : decide ((ji43) < (x6_1.length : Int)) = true := decide_eq_true c45
                            clear c45
                            obtain ⟨y112, hy112⟩ : ∃ y_ : List Int, y_ = (y111.set ((ji43) : Int).toNat (ji39)) := ⟨_, rfl⟩
                            replace H : (if 0 ≤ (wrap64 ((ji39) + 1)) then (if (wrap64 ((ji39) + 1)) < (x6_1.length : Int) then (if 0 ≤ (wrap64 (2 * t105)) then (if (wrap64 (2 * t105)) < (x6_1.length : Int) then (spec_l05Circles.l0 k1 l0 l1 (l0.length : Int) ((y112.set ((wrap64 ((ji39) + 1)) : Int).toNat (wrap64 (2 * t105))).set ((wrap64 (2 * t105)) : Int).toNat (wrap64 ((ji39) + 1))) (wrap64 (x7_1 + 1))) else (none)) else (none)) else (none)) else (none)) = some r := by first | (rw [hy112]; with_reducible exact H) | (have H2_ := (Option.bind_some _ _).symm.trans H; rw [hy112]; with_reducible exact H2_) | (have H2_ := (Option.bind_some _ _).symm.trans H; with_reducible exact H2_) | with_reducible exact H | (rw [hy112]; exact H) | exact H
                            have Ny112 := Aside0.mk hy112
                            clear hy112
                            obtain ⟨ji47, hji47⟩ : ∃ j_ : Int, (wrap64 ((ji39) + 1)) = j_ := ⟨_, rfl⟩
                            replace H : (if 0 ≤ (ji47) then (if (ji47) < (x6_1.length : Int) then (if 0 ≤ (wrap64 (2 * t105)) then (if (wrap64 (2 * t105)) < (x6_1.length : Int) then (spec_l05Circles.l0 k1 l0 l1 (l0.length : Int) ((y112.set ((ji47) : Int).toNat (wrap64 (2 * t105))).set ((wrap64 (2 * t105)) : Int).toNat (ji47)) (wrap64 (x7_1 + 1))) else (none)) else (none)) else (none)) else (none)) = some r := by first | (rw [hji47] at H; exact H) | (simp only [hji47] at H ⊢; exact H)
                            (try rw [hji47] at A10)
                            have hji47w : (IntKind.i64.wrap ((ji39) + 1)) = ji47 := (i64_w _).trans hji47
                            by_cases c48 : 0 ≤ (ji47)
                            · rw [if_pos c48] at H
                              have c48b0 : decide (0 ≤ (ji47)) = true := decide_eq_true c48
                              clear c48
                              by_cases c49 : (ji47) < (x6_1.length : Int)
                              · rw [if_pos c49] at H
                                have c49b0 : decide ((ji47) < (x6_1.length : Int)) = true := decide_eq_true c49
                                clear c49
                                obtain ⟨y113, hy113⟩ : ∃ y_ : List Int, y_ = (y112.set ((ji47) : Int).toNat (wrap64 (2 * t105))) := ⟨_, rfl⟩
                                replace H : (if 0 ≤ (wrap64 (2 * t105)) then (if (wrap64 (2 * t105)) < (x6_1.length : Int) then (spec_l05Circles.l0 k1 l0 l1 (l0.length : Int) (y113.set ((wrap64 (2 * t105)) : Int).toNat (ji47)) (wrap64 (x7_1 + 1))) else (none)) else (none)) = some r := by first | (rw [hy113]; with_reducible exact H) | (have H2_ := (Option.bind_some _ _).symm.trans H; rw [hy113]; with_reducible exact H2_) | (have H2_ := (Option.bind_some _ _).symm.trans H; with_reducible exact H2_) | with_reducible exact H | (rw [hy113]; exact H) | exact H
                                have Ny113 := Aside0.mk hy113
                                clear hy113
                                obtain ⟨ji51, hji51⟩ : ∃ j_ : Int, (wrap64 (2 * t105)) = j_ := ⟨_, rfl⟩
                                replace H : (if 0 ≤ (ji51) then (if (ji51) < (x6_1.length : Int) then (spec_l05Circles.l0 k1 l0 l1 (l0.length : Int) (y113.set ((ji51) : Int).toNat (ji47)) (wrap64 (x7_1 + 1))) else (none)) else (none)) = some r := by first | (rw [hji51] at H; exact H) | (simp only [hji51] at H ⊢; exact H)
                                (try rw [hji51] at A10)
                                (try rw [hji51] at Ny113)
                                have hji51w : (IntKind.i64.wrap (2 * t105)) = ji51 := (i64_w _).trans hji51
                                (try rw [hji51] at hji43)
                                (try rw [hji51] at hji43w)
                                by_cases c52 : 0 ≤ (ji51)
                                · rw [if_pos c52] at H
                                  have c52b0 : decide (0 ≤ (ji51)) = true := decide_eq_true c52
                                  clear c52
                                  by_cases c53 : (ji51) < (x6_1.length : Int)
                                  · rw [if_pos c53] at H
                                    have c53b0 : decide ((ji51) < (x6_1.length : Int)) = true := decide_eq_true c53
                                    clear c53
                                    obtain ⟨y114, hy114⟩ : ∃ y_ : List Int, y_ = (y113.set ((ji51) : Int).toNat (ji47)) := ⟨_, rfl⟩
                                    replace H : (spec_l05Circles.l0 k1 l0 l1 (l0.length : Int) y114 (wrap64 (x7_1 + 1))) = some r := by first | (rw [hy114]; with_reducible exact H) | (have H2_ := (Option.bind_some _ _).symm.trans H; rw [hy114]; with_reducible exact H2_) | (have H2_ := (Option.bind_some _ _).symm.trans H; with_reducible exact H2_) | with_reducible exact H | (rw [hy114]; exact H) | exact H
                                    have Ny114 := Aside0.mk hy114
                                    clear hy114
                                    have H' := Aside0.mk H
                                    clear H
                                    go_wp2_with (first | ((with_reducible refine gate_callee (f := 142) rfl ?_); refine goesL_ (some 30) rfl rfl Try.func142 (by kernel_rfl) rfl #[.slice A0 l0.length c0, .int .i64 x7_1] rfl (by (try simp only [List.map_toArray, List.map_cons, List.map_nil]); first | done | rfl | (simp only [List.length_drop, List.length_take]; rfl)) ?_; (with_reducible refine (spec_l01Places.calls k1 _ _ l0 x7_1 t104 t105 _ ?side1 ?side2 A10.out).mono ?_); (case side1 => repeat (first | exact (Kd.C_below HR0.out HB.out) | (with_reducible refine Kd.C_alloc ?_ _) | (with_reducible refine Kd.C_drewN ?_ _) | (with_reducible refine Kd.C_drew ?_))); (case side2 => exact HC0.out); rintro e w' ⟨rfl, ⟨nd, rfl⟩⟩; refine ⟨_, rfl, ?_⟩; (try (rw [drewN_self wr]; generalize hq_ : World.drewN wr _ = wr; have n0_ : Aside0 (Kd.R (Kd.int .i64) 2 wr w.heap.size (fun _ => True) v102 x6_1) := ⟨by rw [← hq_]; exact (by (with_reducible repeat (first | apply Kd.R_alloc | apply Kd.R_drewN | apply Kd.R_drew)); exact HO_6.out)⟩; have n1_ : Aside0 (Below w.heap.size w wr) := ⟨by rw [← hq_]; exact (by repeat (first | (with_reducible first | exact HB.out | apply below_alloc | apply pw_below_drewN | apply below_drew1) | exact HB.out))⟩; clear HO_6 HB hq_; have HO_6 := n0_; have HB := n1_; clear n0_ n1_)); have p106 : 0 ≤ (x7_1 : Int) := of_decide_eq_true (by first | (with_reducible assumption) | assumption); have q106 : x7_1 < (l1.length : Int) := of_decide_eq_true (by first | (with_reducible assumption) | assumption); obtain ⟨ad106, e106, hx106_0⟩ := Kd.at_bool HR1.out x7_1 p106 q106; (try rw [← Nbq13.out] at hx106_0); cases e106; replace hx106_0 := (HB.out.cell (World.block_lt_of_cell? w _ hx106_0)).trans hx106_0; replace p106 := eq_true p106; replace q106 := eq_true q106; have p42 : 0 ≤ ((ji39) : Int) := of_decide_eq_true (by first | (with_reducible assumption) | assumption); have q42 : ((ji39) : Int) < ((x6_1.length : Int) : Int) := of_decide_eq_true (by first | (with_reducible assumption) | assumption); obtain ⟨go42, co42, eo42, gb42, gl42, cl42, HG42⟩ := Kd.R_form HO_6.out (by omega); (first | cases eo42 | (injection eo42 with ea_ en_ ec_; (first | subst ea_ | (injection ea_ with ea_; subst ea_)); subst ec_; clear en_)); have GB42 := Aside0.mk gb42; have GG42 := Aside0.mk HG42; clear gb42 gl42 HG42; obtain ⟨hx42_0, hf42_0⟩ := Kd.R_celln 0 HO_6.out ((ji39) : Int) p42 q42; replace p42 := eq_true p42; replace q42 := eq_true q42; obtain ⟨hy55_, hz55_⟩ := Kd.R_celln 0 HO_6.out ((ji39) : Int) (of_decide_eq_true (by first | (with_reducible assumption) | assumption)) (of_decide_eq_true (by first | (with_reducible assumption) | assumption)); have HP55 := Kd.R_putg HO_6.out ((ji39) : Int) ji43) | ((with_reducible refine gate_store (t := 2) (p := 71) rfl ?_); refine store_event (t := 2) (p := 71) (v := ?vo_w56) (w1 := (wr.setCell ⟨go42, ((ji39) : Int).toNat, none⟩ (.int .i64 ji43))) ?hg ?ho ?hn ?hr ?_; (case ho => rfl); (case hg => rfl); (case hn => rfl); (case hr => first | (go_simp; done) | (go_simp; rfl)); intro w56 hw; have hg : wr.grownBy w56 (some go42) := (by rw [hw]; exact HP55.2); have hp_ : Kd.R (Kd.int .i64) 2 w56 w.heap.size (fun _ => True) (.slice (some ⟨go42, 0, none⟩) x6_1.length co42) y111 := (by rw [hw, Ny111.out]; exact HP55.1); clear HP55; have n0_ := Aside0.mk (hp_); have n1_ := Aside0.mk ((by rw [hw]; exact below_set (HB.out) GB42.out : Below w.heap.size w w56)); clear HO_6; clear HB; have HO_6 := n0_; have HB := n1_; clear n0_ n1_; clear hg hw hp_; have p46 : 0 ≤ ((ji43) : Int) := of_decide_eq_true (by first | (with_reducible assumption) | assumption); have q46 : ((ji43) : Int) < ((x6_1.length : Int) : Int) := of_decide_eq_true (by first | (with_reducible assumption) | assumption); obtain ⟨hx46_0, hf46_0⟩ := Kd.R_celln 0 HO_6.out ((ji43) : Int) p46 q46; replace p46 := eq_true p46; replace q46 := eq_true q46; obtain ⟨hy57_, hz57_⟩ := Kd.R_celln 0 HO_6.out ((ji43) : Int) (of_decide_eq_true (by first | (with_reducible assumption) | assumption)) (of_decide_eq_true (by first | (with_reducible assumption) | assumption)); have HP57 := Kd.R_putg HO_6.out ((ji43) : Int) ji39) | ((with_reducible refine gate_store (t := 2) (p := 78) rfl ?_); refine store_event (t := 2) (p := 78) (v := ?vo_w58) (w1 := (w56.setCell ⟨go42, ((ji43) : Int).toNat, none⟩ (.int .i64 ji39))) ?hg ?ho ?hn ?hr ?_; (case ho => rfl); (case hg => rfl); (case hn => rfl); (case hr => first | (go_simp; done) | (go_simp; rfl)); intro w58 hw; have hg : w56.grownBy w58 (some go42) := (by rw [hw]; exact HP57.2); have hp_ : Kd.R (Kd.int .i64) 2 w58 w.heap.size (fun _ => True) (.slice (some ⟨go42, 0, none⟩) x6_1.length co42) y112 := (by rw [hw, Ny112.out]; exact HP57.1); clear HP57; have n0_ := Aside0.mk (hp_); have n1_ := Aside0.mk ((by rw [hw]; exact below_set (HB.out) GB42.out : Below w.heap.size w w58)); clear HO_6; clear HB; have HO_6 := n0_; have HB := n1_; clear n0_ n1_; clear hg hw hp_; have p50 : 0 ≤ ((ji47) : Int) := of_decide_eq_true (by first | (with_reducible assumption) | assumption); have q50 : ((ji47) : Int) < ((x6_1.length : Int) : Int) := of_decide_eq_true (by first | (with_reducible assumption) | assumption); obtain ⟨hx50_0, hf50_0⟩ := Kd.R_celln 0 HO_6.out ((ji47) : Int) p50 q50; replace p50 := eq_true p50; replace q50 := eq_true q50; obtain ⟨hy59_, hz59_⟩ := Kd.R_celln 0 HO_6.out ((ji47) : Int) (of_decide_eq_true (by first | (with_reducible assumption) | assumption)) (of_decide_eq_true (by first | (with_reducible assumption) | assumption)); have HP59 := Kd.R_putg HO_6.out ((ji47) : Int) ji51) | ((with_reducible refine gate_store (t := 2) (p := 85) rfl ?_); refine store_event (t := 2) (p := 85) (v := ?vo_w60) (w1 := (w58.setCell ⟨go42, ((ji47) : Int).toNat, none⟩ (.int .i64 ji51))) ?hg ?ho ?hn ?hr ?_; (case ho => rfl); (case hg => rfl); (case hn => rfl); (case hr => first | (go_simp; done) | (go_simp; rfl)); intro w60 hw; have hg : w58.grownBy w60 (some go42) := (by rw [hw]; exact HP59.2); have hp_ : Kd.R (Kd.int .i64) 2 w60 w.heap.size (fun _ => True) (.slice (some ⟨go42, 0, none⟩) x6_1.length co42) y113 := (by rw [hw, Ny113.out]; exact HP59.1); clear HP59; have n0_ := Aside0.mk (hp_); have n1_ := Aside0.mk ((by rw [hw]; exact below_set (HB.out) GB42.out : Below w.heap.size w w60)); clear HO_6; clear HB; have HO_6 := n0_; have HB := n1_; clear n0_ n1_; clear hg hw hp_; have p54 : 0 ≤ ((ji51) : Int) := of_decide_eq_true (by first | (with_reducible assumption) | assumption); have q54 : ((ji51) : Int) < ((x6_1.length : Int) : Int) := of_decide_eq_true (by first | (with_reducible assumption) | assumption); obtain ⟨hx54_0, hf54_0⟩ := Kd.R_celln 0 HO_6.out ((ji51) : Int) p54 q54; replace p54 := eq_true p54; replace q54 := eq_true q54; obtain ⟨hy61_, hz61_⟩ := Kd.R_celln 0 HO_6.out ((ji51) : Int) (of_decide_eq_true (by first | (with_reducible assumption) | assumption)) (of_decide_eq_true (by first | (with_reducible assumption) | assumption)); have HP61 := Kd.R_putg HO_6.out ((ji51) : Int) ji47) | ((with_reducible refine gate_store (t := 2) (p := 92) rfl ?_); refine store_event (t := 2) (p := 92) (v := ?vo_w62) (w1 := (w60.setCell ⟨go42, ((ji51) : Int).toNat, none⟩ (.int .i64 ji47))) ?hg ?ho ?hn ?hr ?_; (case ho => rfl); (case hg => rfl); (case hn => rfl); (case hr => first | (go_simp; done) | (go_simp; rfl)); intro w62 hw; have hg : w60.grownBy w62 (some go42) := (by rw [hw]; exact HP61.2); have hp_ : Kd.R (Kd.int .i64) 2 w62 w.heap.size (fun _ => True) (.slice (some ⟨go42, 0, none⟩) x6_1.length co42) y114 := (by rw [hw, Ny114.out]; exact HP61.1); clear HP61; have n0_ := Aside0.mk (hp_); have n1_ := Aside0.mk ((by rw [hw]; exact below_set (HB.out) GB42.out : Below w.heap.size w w62)); clear HO_6; clear HB; have HO_6 := n0_; have HB := n1_; clear n0_ n1_; clear hg hw hp_))
                                    go_roundg k1
                                    case measure => have := HK1.out; omega
                                    case rel => exact ⟨(y114), (wrap64 (x7_1 + 1)), (by first | rfl | (simp; done) | (simp [*]; done)), H', ⟨by have := HK1.out; omega⟩, ⟨by (with_reducible repeat (first | apply Kd.R_alloc | apply Kd.R_drewN | apply Kd.R_drew)); exact HO_6.out⟩, ⟨by repeat (first | (with_reducible first | exact HB.out | apply below_alloc | apply pw_below_drewN | apply below_drew1) | exact HB.out)⟩⟩
                                  · rw [if_neg c53] at H
                                    exact absurd H (by simp)
                                · rw [if_neg c52] at H
                                  exact absurd H (by simp)
                              · rw [if_neg c49] at H
                                exact absurd H (by simp)
                            · rw [if_neg c48] at H
                              exact absurd H (by simp)
                          · rw [if_neg c45] at H
                            exact absurd H (by simp)
                        · rw [if_neg c44] at H
                          exact absurd H (by simp)
                      · rw [if_neg c41] at H
                        exact absurd H (by simp)
                    · rw [if_neg c40] at H
                      exact absurd H (by simp)
                · rw [if_neg c12] at H
                  exact absurd H (by simp)
              · rw [if_neg c11] at H
                exact absurd H (by simp)
            · rw [if_neg c9] at H
              have c9b0 : decide (x7_1 < (wrap64 (Int.tdiv (l0.length : Int) 2))) = false := decide_eq_false c9
              rw [Int.tdiv_eq_ediv_of_nonneg (by omega)] at c9b0
              clear c9
              obtain ⟨ji63, hji63⟩ : ∃ j_ : Int, (wrap64 (2 * (l0.length : Int))) = j_ := ⟨_, rfl⟩
              replace H : (if 0 ≤ (ji63) then (if (ji63 : Int).toNat ≤ 281474976710656 then (spec_l05Circles.l1 k1 (l0.length : Int) x6_1 (List.replicate (ji63 : Int).toNat false) 0 0) else (none)) else (none)) = some r := by first | (rw [hji63] at H; exact H) | (simp only [hji63] at H ⊢; exact H)
              have hji63w : (IntKind.i64.wrap (2 * (l0.length : Int))) = ji63 := (i64_w _).trans hji63
              obtain rfl : ji63 = ji4 := hji63.symm.trans hji4
              by_cases c64 : 0 ≤ (ji63)
              · rw [if_pos c64] at H
                have c64b0 := eq_true c64
                have c64b1 : decide (0 ≤ (ji63)) = true := decide_eq_true c64
                clear c64
                by_cases c65 : (ji63 : Int).toNat ≤ 281474976710656
                · rw [if_pos c65] at H
                  have c65b0 := eq_true c65
                  have c65b1 : decide ((ji63 : Int).toNat ≤ 281474976710656) = true := decide_eq_true c65
                  clear c65
                  obtain ⟨y115, hy115⟩ : ∃ y_ : List Bool, y_ = (List.replicate (ji63 : Int).toNat false) := ⟨_, rfl⟩
                  replace H : (spec_l05Circles.l1 k1 (l0.length : Int) x6_1 y115 0 0) = some r := by first | (rw [hy115]; with_reducible exact H) | (have H2_ := (Option.bind_some _ _).symm.trans H; rw [hy115]; with_reducible exact H2_) | (have H2_ := (Option.bind_some _ _).symm.trans H; with_reducible exact H2_) | with_reducible exact H | (rw [hy115]; exact H) | exact H
                  have Ny115 := Aside0.mk hy115
                  clear hy115
                  have H' := Aside0.mk H
                  clear H
                  go_wp2_with (first | ((with_reducible refine gate_dst (N := 95) rfl ?_); refine Kd.R_make Kd.bool _ 4 rfl (N := 95) rfl 67 _ _ rfl ji63 rfl rfl Try.underlying67 (.bool false) 1 info4 rfl (by decide) (by omega) false (ok := fun _ => True) (okp := fun _ => True) rfl (fun _ hk => hk) trivial (of_decide_eq_true (by first | (with_reducible assumption) | assumption)) (Nat.le_trans (Nat.mul_le_mul_right _ (of_decide_eq_true (by first | (with_reducible assumption) | assumption) : ji63.toNat ≤ 281474976710656)) (by omega)) (Below.refl _ _) (Nat.le_refl _) ?_; intro v116 w66 ho67 hb hg_ hnew_; clear hg_ hnew_; (first | rw [← Ny115.out] at ho67 | (simp only [Int.reduceToNat] at ho67; rw [← Ny115.out] at ho67)); have n0_ := Aside0.mk (Kd.R_below (by (with_reducible repeat (first | apply Kd.R_alloc | apply Kd.R_drewN | apply Kd.R_drew)); exact HO_6.out) hb); have n1_ := Aside0.mk (Kd.R_lower ho67 (below_size (by repeat (first | (with_reducible first | exact HB.out | apply below_alloc | apply pw_below_drewN | apply below_drew1) | exact HB.out)))); have n2_ := Aside0.mk (below_step (by repeat (first | (with_reducible first | exact HB.out | apply below_alloc | apply pw_below_drewN | apply below_drew1) | exact HB.out)) hb); clear HO_6; clear HB; have HO_6 := n0_; have HO117 := n1_; have HB := n2_; clear n0_ n1_ n2_; clear hb ho67))
                  go_loopg [11, 12] k1 (fun kq v11 v12 w' => ∃ (x10_2 : List Bool) (x11_2 : Int) (x12_2 : Int), v11 = .int .i64 x11_2 ∧ v12 = .int .i64 x12_2 ∧ Aside0 (spec_l05Circles.l1 kq (l0.length : Int) x6_1 x10_2 x11_2 x12_2 = some r) ∧ Aside0 (kq ≤ k1) ∧ Aside0 (Kd.R (Kd.int .i64) 2 w' w.heap.size (fun _ => True) v102 x6_1) ∧ Aside0 (Kd.R Kd.bool 4 w' w.heap.size (fun _ => True) v116 x10_2) ∧ Aside0 (Below w.heap.size w w'))
                  case atStart => exact ⟨(y115), (0), (0), (by first | rfl | (simp; done) | (simp [*]; done)), (by first | rfl | (simp; done) | (simp [*]; done)), H', ⟨Nat.le_refl _⟩, ⟨by (with_reducible repeat (first | apply Kd.R_alloc | apply Kd.R_drewN | apply Kd.R_drew)); exact HO_6.out⟩, ⟨by (with_reducible repeat (first | apply Kd.R_alloc | apply Kd.R_drewN | apply Kd.R_drew)); exact HO117.out⟩, ⟨by repeat (first | (with_reducible first | exact HB.out | apply below_alloc | apply pw_below_drewN | apply below_drew1) | exact HB.out)⟩⟩
                  case round =>
                    clear H'
                    try clear c1
                    try clear p1
                    try clear q1
                    try clear hx1
                    try clear c2
                    try clear p2
                    try clear q2
                    try clear hx2
                    try clear hf2
                    try clear c3
                    try clear c3b0
                    try clear c3b1
                    try clear c3b2
                    try clear p3
                    try clear q3
                    try clear hx3
                    try clear hf3
                    try clear c4
                    try clear p4
                    try clear q4
                    try clear hx4
                    try clear hf4
                    try clear c5
                    try clear c5b0
                    try clear c5b1
                    try clear p5
                    try clear q5
                    try clear hx5
                    try clear hf5
                    try clear c6
                    try clear c6b0
                    try clear c6b1
                    try clear p6
                    try clear c9
                    try clear c9b0
                    try clear c10
                    try clear p10
                    try clear q10
                    try clear hx10
                    try clear c11
                    try clear c11b0
                    try clear c12
                    try clear c12b0
                    try clear q13
                    try clear c14
                    try clear c16
                    try clear c16b0
                    try clear c17
                    try clear c17b0
                    try clear p18
                    try clear q18
                    try clear hx18
                    try clear hf18
                    try clear c20
                    try clear c20b0
                    try clear c21
                    try clear c21b0
                    try clear p22
                    try clear q22
                    try clear hx22
                    try clear hf22
                    try clear c24
                    try clear c24b0
                    try clear c25
                    try clear c25b0
                    try clear p26
                    try clear q26
                    try clear hx26
                    try clear hf26
                    try clear c28
                    try clear c28b0
                    try clear c29
                    try clear c29b0
                    try clear p30
                    try clear q30
                    try clear hx30
                    try clear hf30
                    try clear c40
                    try clear c40b0
                    try clear c41
                    try clear c41b0
                    try clear p42
                    try clear q42
                    try clear hx42
                    try clear hf42
                    try clear c44
                    try clear c44b0
                    try clear c45
                    try clear c45b0
                    try clear p46
                    try clear q46
                    try clear hx46
                    try clear hf46
                    try clear c48
                    try clear c48b0
                    try clear c49
                    try clear c49b0
                    try clear p50
                    try clear q50
                    try clear hx50
                    try clear hf50
                    try clear c52
                    try clear c52b0
                    try clear c53
                    try clear c53b0
                    try clear p54
                    try clear q54
                    try clear hx54
                    try clear hf54
                    try clear c64
                    try clear c64b0
                    try clear c64b1
                    try clear p64
                    try clear c65
                    try clear c65b0
                    try clear c65b1
                    try clear hx106_0
                    try clear hx18_0
                    try clear hx22_0
                    try clear hx26_0
                    try clear hx30_0
                    try clear hx42_0
                    try clear hx46_0
                    try clear hx50_0
                    try clear hx54_0
                    try clear p106
                    try clear p18
                    try clear p2
                    try clear p22
                    try clear p26
                    try clear p30
                    try clear p42
                    try clear p46
                    try clear p50
                    try clear p54
                    try clear p6
                    try clear q106
                    try clear q18
                    try clear q22
                    try clear q26
                    try clear q30
                    try clear q42
                    try clear q46
                    try clear q50
                    try clear q54
                    obtain ⟨x10_2, x11_2, x12_2, rfl, rfl, HA, HK2, HO_6, HO_10, HB⟩ := hrel
                    cases gk with
                    | zero => exact absurd HA.out (by simp [spec_l05Circles.l1])
                    | succ k2 =>
                      have H := HA.out
                      clear HA
                      simp only [spec_l05Circles.l1] at H
                      by_cases c68 : x12_2 < (wrap64 (2 * (l0.length : Int)))
                      · rw [if_pos c68] at H
                        have c68b0 : decide (x12_2 < (wrap64 (2 * (l0.length : Int)))) = true := decide_eq_true c68
                        (try rw [hji4] at c68b0)
                        (try rw [hji63] at c68b0)
                        clear c68
                        by_cases c69 : 0 ≤ x12_2
                        · rw [if_pos c69] at H
                          have c69b0 : decide (0 ≤ x12_2) = true := decide_eq_true c69
                          clear c69
                          by_cases c70 : x12_2 < (x10_2.length : Int)
                          · rw [if_pos c70] at H
                            have c70b0 : decide (x12_2 < (x10_2.length : Int)) = true := decide_eq_true c70
                            clear c70
                            obtain ⟨bq71, hbq71⟩ : ∃ b_ : Bool, b_ = (rdOf false x10_2 x12_2) := ⟨_, rfl⟩
                            replace H : (if bq71 = true then (spec_l05Circles.l1 k2 (l0.length : Int) x6_1 x10_2 x11_2 (wrap64 (x12_2 + 1))) else (spec_l05Circles.l2 k2 (l0.length : Int) x6_1 x10_2 (wrap64 (x11_2 + 1)) x12_2 x12_2)) = some r := by rw [← hbq71] at H; exact H
                            have Nbq71 := Aside0.mk hbq71
                            clear hbq71
                            by_cases c72 : bq71 = true
                            · subst c72
                              have H1 : (spec_l05Circles.l1 k2 (l0.length : Int) x6_1 x10_2 x11_2 (wrap64 (x12_2 + 1))) = some r := by rw [if_pos rfl] at H; exact H
                              clear H
                              have H := H1
                              clear H1
                              have H' := Aside0.mk H
                              clear H
                              obtain ⟨Ao73, co73, eo73⟩ := Kd.R_slice HO_10.out
                              subst eo73
                              have p118 : 0 ≤ (x12_2 : Int) := of_decide_eq_true (by first | (with_reducible assumption) | assumption)
                              have q118 : x12_2 < (x10_2.length : Int) := of_decide_eq_true (by first | (with_reducible assumption) | assumption)
                              obtain ⟨ad118, e118, hx118_0⟩ := Kd.at_bool (Kd.R_reads' HO_10.out).2.2 x12_2 p118 q118
                              (try rw [← Nbq71.out] at hx118_0)
                              cases e118
                              replace p118 := eq_true p118
                              replace q118 := eq_true q118
                              go_wp2
                              go_roundg k2
                              case measure => have := HK1.out; have := HK2.out; omega
                              case rel => exact ⟨(x10_2), (x11_2), (wrap64 (x12_2 + 1)), (by first | rfl | (simp; done) | (simp [*]; done)), (by first | rfl | (simp; done) | (simp [*]; done)), H', ⟨by have := HK1.out; have := HK2.out; omega⟩, ⟨by (with_reducible repeat (first | apply Kd.R_alloc | apply Kd.R_drewN | apply Kd.R_drew)); exact HO_6.out⟩, ⟨by (with_reducible repeat (first | apply Kd.R_alloc | apply Kd.R_drewN | apply Kd.R_drew)); exact HO_10.out⟩, ⟨by repeat (first | (with_reducible first | exact HB.out | apply below_alloc | apply pw_below_drewN | apply below_drew1) | exact HB.out)⟩⟩
                            · replace c72 := Bool.eq_false_iff.mpr c72
                              subst c72
                              have H1 : (spec_l05Circles.l2 k2 (l0.length : Int) x6_1 x10_2 (wrap64 (x11_2 + 1)) x12_2 x12_2) = some r := by rw [if_neg (show ¬ (false = true) by decide)] at H; exact H
                              clear H
                              have H := H1
                              clear H1
                              have H' := Aside0.mk H
                              clear H
                              obtain ⟨Ao74, co74, eo74⟩ := Kd.R_slice HO_10.out
                              subst eo74
                              have p118 : 0 ≤ (x12_2 : Int) := of_decide_eq_true (by first | (with_reducible assumption) | assumption)
                              have q118 : x12_2 < (x10_2.length : Int) := of_decide_eq_true (by first | (with_reducible assumption) | assumption)
                              obtain ⟨ad118, e118, hx118_0⟩ := Kd.at_bool (Kd.R_reads' HO_10.out).2.2 x12_2 p118 q118
                              (try rw [← Nbq71.out] at hx118_0)
                              cases e118
                              obtain ⟨go9118, co9118, eo9118, _, _, _, _⟩ := Kd.R_form HO_10.out (by omega)
                              (first | cases eo9118 | (injection eo9118 with ea_ en_ ec_; (first | subst ea_ | (injection ea_ with ea_; subst ea_)); subst ec_; clear en_))
                              (first | simp only [add_plain] at hx118_0 | skip)
                              replace p118 := eq_true p118
                              replace q118 := eq_true q118
                              go_wp2
                              go_loopg [13] k2 (fun kq v13 w' => ∃ (x10_3 : List Bool) (x13_3 : Int), v13 = .int .i64 x13_3 ∧ Aside0 (spec_l05Circles.l2 kq (l0.length : Int) x6_1 x10_3 (wrap64 (x11_2 + 1)) x12_2 x13_3 = some r) ∧ Aside0 (kq ≤ k2) ∧ Aside0 (Kd.R (Kd.int .i64) 2 w' w.heap.size (fun _ => True) v102 x6_1) ∧ Aside0 (Kd.R Kd.bool 4 w' w.heap.size (fun _ => True) (.slice (some (⟨go9118, 0, none⟩ : Addr)) x10_2.length co74) x10_3) ∧ Aside0 (Below w.heap.size w w'))
                              case atStart => exact ⟨(x10_2), (x12_2), (by first | rfl | (simp; done) | (simp [*]; done)), H', ⟨Nat.le_refl _⟩, ⟨by (with_reducible repeat (first | apply Kd.R_alloc | apply Kd.R_drewN | apply Kd.R_drew)); exact HO_6.out⟩, ⟨by (with_reducible repeat (first | apply Kd.R_alloc | apply Kd.R_drewN | apply Kd.R_drew)); exact HO_10.out⟩, ⟨by repeat (first | (with_reducible first | exact HB.out | apply below_alloc | apply pw_below_drewN | apply below_drew1) | exact HB.out)⟩⟩
                              case round =>
                                clear H'
                                try clear c1
                                try clear p1
                                try clear q1
                                try clear hx1
                                try clear c2
                                try clear p2
                                try clear q2
                                try clear hx2
                                try clear hf2
                                try clear c3
                                try clear c3b0
                                try clear c3b1
                                try clear c3b2
                                try clear p3
                                try clear q3
                                try clear hx3
                                try clear hf3
                                try clear c4
                                try clear p4
                                try clear q4
                                try clear hx4
                                try clear hf4
                                try clear c5
                                try clear c5b0
                                try clear c5b1
                                try clear p5
                                try clear q5
                                try clear hx5
                                try clear hf5
                                try clear c6
                                try clear c6b0
                                try clear c6b1
                                try clear p6
                                try clear c7
                                try clear q7
                                try clear c9
                                try clear c9b0
                                try clear c10
                                try clear p10
                                try clear q10
                                try clear hx10
                                try clear c11
                                try clear c11b0
                                try clear p11
                                try clear q11
                                try clear hx11
                                try clear c12
                                try clear c12b0
                                try clear q13
                                try clear c14
                                try clear c16
                                try clear c16b0
                                try clear c17
                                try clear c17b0
                                try clear p18
                                try clear q18
                                try clear hx18
                                try clear hf18
                                try clear c20
                                try clear c20b0
                                try clear c21
                                try clear c21b0
                                try clear p22
                                try clear q22
                                try clear hx22
                                try clear hf22
                                try clear c24
                                try clear c24b0
                                try clear c25
                                try clear c25b0
                                try clear p26
                                try clear q26
                                try clear hx26
                                try clear hf26
                                try clear c28
                                try clear c28b0
                                try clear c29
                                try clear c29b0
                                try clear p30
                                try clear q30
                                try clear hx30
                                try clear hf30
                                try clear c40
                                try clear c40b0
                                try clear c41
                                try clear c41b0
                                try clear p42
                                try clear q42
                                try clear hx42
                                try clear hf42
                                try clear c44
                                try clear c44b0
                                try clear c45
                                try clear c45b0
                                try clear p46
                                try clear q46
                                try clear hx46
                                try clear hf46
                                try clear c48
                                try clear c48b0
                                try clear c49
                                try clear c49b0
                                try clear p50
                                try clear q50
                                try clear hx50
                                try clear hf50
                                try clear c52
                                try clear c52b0
                                try clear c53
                                try clear c53b0
                                try clear p54
                                try clear q54
                                try clear hx54
                                try clear hf54
                                try clear c64
                                try clear c64b0
                                try clear c64b1
                                try clear p64
                                try clear c65
                                try clear c65b0
                                try clear c65b1
                                try clear c68
                                try clear c68b0
                                try clear c69
                                try clear c69b0
                                try clear c70
                                try clear c70b0
                                try clear q71
                                try clear c72
                                try clear hx106_0
                                try clear hx118_0
                                try clear hx18_0
                                try clear hx22_0
                                try clear hx26_0
                                try clear hx30_0
                                try clear hx42_0
                                try clear hx46_0
                                try clear hx50_0
                                try clear hx54_0
                                try clear p1
                                try clear p10
                                try clear p106
                                try clear p118
                                try clear p18
                                try clear p2
                                try clear p22
                                try clear p26
                                try clear p3
                                try clear p30
                                try clear p4
                                try clear p42
                                try clear p46
                                try clear p5
                                try clear p50
                                try clear p54
                                try clear p6
                                try clear p64
                                try clear q1
                                try clear q10
                                try clear q106
                                try clear q118
                                try clear q13
                                try clear q18
                                try clear q2
                                try clear q22
                                try clear q26
                                try clear q3
                                try clear q30
                                try clear q4
                                try clear q42
                                try clear q46
                                try clear q5
                                try clear q50
                                try clear q54
                                obtain ⟨x10_3, x13_3, rfl, HA, HK3, HO_6, HO_10, HB⟩ := hrel
                                have hl10_3 := (Kd.R_reads' HO_10.out).1
                                rw [hl10_3] at HO_10
                                (try simp only [hl10_3])
                                (try simp only [hl10_3] at HO_6)
                                cases gk with
                                | zero => exact absurd HA.out (by simp [spec_l05Circles.l2])
                                | succ k3 =>
                                  have H := HA.out
                                  clear HA
                                  simp only [spec_l05Circles.l2] at H
                                  by_cases c75 : 0 ≤ x13_3
                                  · rw [if_pos c75] at H
                                    have c75b0 : decide (0 ≤ x13_3) = true := decide_eq_true c75
                                    clear c75
                                    by_cases c76 : x13_3 < (x10_3.length : Int)
                                    · rw [if_pos c76] at H
                                      have c76b0 : decide (x13_3 < (x10_3.length : Int)) = true := decide_eq_true c76
                                      clear c76
                                      obtain ⟨bq77, hbq77⟩ : ∃ b_ : Bool, b_ = (rdOf false x10_3 x13_3) := ⟨_, rfl⟩
                                      replace H : (if bq77 = true then (spec_l05Circles.l1 k3 (l0.length : Int) x6_1 x10_3 (wrap64 (x11_2 + 1)) (wrap64 (x12_2 + 1))) else (if x13_3 < (x6_1.length : Int) then (if 0 ≤ (rd x6_1 x13_3) then (if (rd x6_1 x13_3) < (x10_3.length : Int) then ((some ((x10_3.set (x13_3 : Int).toNat true).set ((rd x6_1 x13_3) : Int).toNat true : List Bool)).bind fun y122 => (if (Int.tmod (rd x6_1 x13_3) 2) = 1 then (if (wrap64 (2 * (l0.length : Int))) = 0 then (none) else (spec_l05Circles.l2 k3 (l0.length : Int) x6_1 y122 (wrap64 (x11_2 + 1)) x12_2 (Int.tmod (wrap64 ((rd x6_1 x13_3) + 1)) (wrap64 (2 * (l0.length : Int)))))) else (if (wrap64 (2 * (l0.length : Int))) = 0 then (none) else (spec_l05Circles.l2 k3 (l0.length : Int) x6_1 y122 (wrap64 (x11_2 + 1)) x12_2 (Int.tmod (wrap64 ((wrap64 ((rd x6_1 x13_3) + (wrap64 (2 * (l0.length : Int))))) - 1)) (wrap64 (2 * (l0.length : Int)))))))) else (none)) else (none)) else (none))) = some r := by rw [← hbq77] at H; exact H
                                      have Nbq77 := Aside0.mk hbq77
                                      clear hbq77
                                      by_cases c78 : bq77 = true
                                      · subst c78
                                        have H1 : (spec_l05Circles.l1 k3 (l0.length : Int) x6_1 x10_3 (wrap64 (x11_2 + 1)) (wrap64 (x12_2 + 1))) = some r := by rw [if_pos rfl] at H; exact H
                                        clear H
                                        have H := H1
                                        clear H1
                                        have H' := Aside0.mk H
                                        clear H
                                        have p119 : 0 ≤ (x13_3 : Int) := of_decide_eq_true (by first | (with_reducible assumption) | assumption)
                                        have q119 : x13_3 < (x10_3.length : Int) := of_decide_eq_true (by first | (with_reducible assumption) | assumption)
                                        obtain ⟨ad119, e119, hx119_0⟩ := Kd.at_bool (Kd.R_reads' HO_10.out).2.2 x13_3 p119 q119
                                        (try rw [← Nbq71.out] at hx119_0)
                                        (try rw [← Nbq77.out] at hx119_0)
                                        (first | cases e119 | skip)
                                        (first | simp only [add_plain] at hx119_0 | skip)
                                        replace p119 := eq_true p119
                                        replace q119 := eq_true q119
                                        go_wp2
                                        (try simp only [← hl10_3])
                                        go_roundg k3
                                        case measure => have := HK1.out; have := HK2.out; have := HK3.out; omega
                                        case rel => exact ⟨(x10_3), ((wrap64 (x11_2 + 1))), (wrap64 (x12_2 + 1)), (by first | rfl | (simp; done) | (simp [*]; done)), (by first | rfl | (simp; done) | (simp [*]; done)), H', ⟨by have := HK1.out; have := HK2.out; have := HK3.out; omega⟩, ⟨by (try simp only [hl10_3]); (with_reducible repeat (first | apply Kd.R_alloc | apply Kd.R_drewN | apply Kd.R_drew)); exact HO_6.out⟩, ⟨by (try simp only [hl10_3]); (with_reducible repeat (first | apply Kd.R_alloc | apply Kd.R_drewN | apply Kd.R_drew)); exact HO_10.out⟩, ⟨by repeat (first | (with_reducible first | exact HB.out | apply below_alloc | apply pw_below_drewN | apply below_drew1) | exact HB.out)⟩⟩
                                      · replace c78 := Bool.eq_false_iff.mpr c78
                                        subst c78
                                        have H1 : (if x13_3 < (x6_1.length : Int) then (if 0 ≤ (rd x6_1 x13_3) then (if (rd x6_1 x13_3) < (x10_3.length : Int) then ((some ((x10_3.set (x13_3 : Int).toNat true).set ((rd x6_1 x13_3) : Int).toNat true : List Bool)).bind fun y122 => (if (Int.tmod (rd x6_1 x13_3) 2) = 1 then (if (wrap64 (2 * (l0.length : Int))) = 0 then (none) else (spec_l05Circles.l2 k3 (l0.length : Int) x6_1 y122 (wrap64 (x11_2 + 1)) x12_2 (Int.tmod (wrap64 ((rd x6_1 x13_3) + 1)) (wrap64 (2 * (l0.length : Int)))))) else (if (wrap64 (2 * (l0.length : Int))) = 0 then (none) else (spec_l05Circles.l2 k3 (l0.length : Int) x6_1 y122 (wrap64 (x11_2 + 1)) x12_2 (Int.tmod (wrap64 ((wrap64 ((rd x6_1 x13_3) + (wrap64 (2 * (l0.length : Int))))) - 1)) (wrap64 (2 * (l0.length : Int)))))))) else (none)) else (none)) else (none)) = some r := by rw [if_neg (show ¬ (false = true) by decide)] at H; exact H
                                        clear H
                                        have H := H1
                                        clear H1
                                        obtain ⟨y120, hy120⟩ : ∃ y_ : List Bool, y_ = (x10_3.set (x13_3 : Int).toNat true) := ⟨_, rfl⟩
                                        replace H : (if x13_3 < (x6_1.length : Int) then (if 0 ≤ (rd x6_1 x13_3) then (if (rd x6_1 x13_3) < (x10_3.length : Int) then ((some (y120.set ((rd x6_1 x13_3) : Int).toNat true : List Bool)).bind fun y122 => (if (Int.tmod (rd x6_1 x13_3) 2) = 1 then (if (wrap64 (2 * (l0.length : Int))) = 0 then (none) else (spec_l05Circles.l2 k3 (l0.length : Int) x6_1 y122 (wrap64 (x11_2 + 1)) x12_2 (Int.tmod (wrap64 ((rd x6_1 x13_3) + 1)) (wrap64 (2 * (l0.length : Int)))))) else (if (wrap64 (2 * (l0.length : Int))) = 0 then (none) else (spec_l05Circles.l2 k3 (l0.length : Int) x6_1 y122 (wrap64 (x11_2 + 1)) x12_2 (Int.tmod (wrap64 ((wrap64 ((rd x6_1 x13_3) + (wrap64 (2 * (l0.length : Int))))) - 1)) (wrap64 (2 * (l0.length : Int)))))))) else (none)) else (none)) else (none)) = some r := by first | (rw [hy120]; with_reducible exact H) | (have H2_ := (Option.bind_some _ _).symm.trans H; rw [hy120]; with_reducible exact H2_) | (have H2_ := (Option.bind_some _ _).symm.trans H; with_reducible exact H2_) | with_reducible exact H | (rw [hy120]; exact H) | exact H
                                        have Ny120 := Aside0.mk hy120
                                        clear hy120
                                        by_cases c80 : x13_3 < (x6_1.length : Int)
                                        · rw [if_pos c80] at H
                                          have c80b0 : decide (x13_3 < (x6_1.length : Int)) = true := decide_eq_true c80
                                          clear c80
                                          by_cases c81 : 0 ≤ (rd x6_1 x13_3)
                                          · rw [if_pos c81] at H
                                            have c81b0 : decide (0 ≤ (rd x6_1 x13_3)) = true := decide_eq_true c81
                                            clear c81
                                            by_cases c82 : (rd x6_1 x13_3) < (x10_3.length : Int)
                                            · rw [if_pos c82] at H
                                              have c82b0 : decide ((rd x6_1 x13_3) < (x10_3.length : Int)) = true := decide_eq_true c82
                                              clear c82
                                              obtain ⟨y122, hy122⟩ : ∃ y_ : List Bool, y_ = (y120.set ((rd x6_1 x13_3) : Int).toNat true) := ⟨_, rfl⟩
                                              replace H : (if (Int.tmod (rd x6_1 x13_3) 2) = 1 then (if (wrap64 (2 * (l0.length : Int))) = 0 then (none) else (spec_l05Circles.l2 k3 (l0.length : Int) x6_1 y122 (wrap64 (x11_2 + 1)) x12_2 (Int.tmod (wrap64 ((rd x6_1 x13_3) + 1)) (wrap64 (2 * (l0.length : Int)))))) else (if (wrap64 (2 * (l0.length : Int))) = 0 then (none) else (spec_l05Circles.l2 k3 (l0.length : Int) x6_1 y122 (wrap64 (x11_2 + 1)) x12_2 (Int.tmod (wrap64 ((wrap64 ((rd x6_1 x13_3) + (wrap64 (2 * (l0.length : Int))))) - 1)) (wrap64 (2 * (l0.length : Int))))))) = some r := by first | (rw [hy122]; with_reducible exact H) | (have H2_ := (Option.bind_some _ _).symm.trans H; rw [hy122]; with_reducible exact H2_) | (have H2_ := (Option.bind_some _ _).symm.trans H; with_reducible exact H2_) | with_reducible exact H | (rw [hy122]; exact H) | exact H
                                              have Ny122 := Aside0.mk hy122
                                              clear hy122
                                              by_cases c84 : (Int.tmod (rd x6_1 x13_3) 2) = 1
                                              · rw [if_pos c84] at H
                                                have c84b0 : ((Int.tmod (rd x6_1 x13_3) 2) == 1) = true := beq_iff_eq.mpr c84
                                                have c84b1 : ((Int.tmod (rd x6_1 x13_3) 2) != 1) = false := bne_eq_false_iff_eq.mpr c84
                                                clear c84
                                                by_cases c85 : (wrap64 (2 * (l0.length : Int))) = 0
                                                · rw [if_pos c85] at H
                                                  exact absurd H (by simp)
                                                · rw [if_neg c85] at H
                                                  have c85b0 : ((wrap64 (2 * (l0.length : Int))) == 0) = false := beq_eq_false_iff_ne.mpr c85
                                                  have c85b1 : ((wrap64 (2 * (l0.length : Int))) != 0) = true := bne_iff_ne.mpr c85
                                                  have H' := Aside0.mk H
                                                  clear H
                                                  have p119 : 0 ≤ (x13_3 : Int) := of_decide_eq_true (by first | (with_reducible assumption) | assumption)
                                                  have q119 : x13_3 < (x10_3.length : Int) := of_decide_eq_true (by first | (with_reducible assumption) | assumption)
                                                  obtain ⟨ad119, e119, hx119_0⟩ := Kd.at_bool (Kd.R_reads' HO_10.out).2.2 x13_3 p119 q119
                                                  (try rw [← Nbq71.out] at hx119_0)
                                                  (try rw [← Nbq77.out] at hx119_0)
                                                  (first | cases e119 | skip)
                                                  (first | simp only [add_plain] at hx119_0 | skip)
                                                  replace p119 := eq_true p119
                                                  replace q119 := eq_true q119
                                                  have p79 : 0 ≤ (x13_3 : Int) := of_decide_eq_true (by first | (with_reducible assumption) | assumption)
                                                  have q79 : (x13_3 : Int) < ((x10_3.length : Int) : Int) := of_decide_eq_true (by first | (with_reducible assumption) | assumption)
                                                  obtain ⟨go79, co79, eo79, gb79, gl79, cl79, HG79⟩ := Kd.R_form HO_10.out (by omega)
                                                  (first | cases eo79 | (injection eo79 with ea_ en_ ec_; (first | subst ea_ | (injection ea_ with ea_; subst ea_)); subst ec_; clear en_))
                                                  have GB79 := Aside0.mk gb79
                                                  have GG79 := Aside0.mk HG79
                                                  clear gb79 gl79 HG79
                                                  (first | simp only [add_plain] at hx118_0 | skip)
                                                  (first | simp only [add_plain] at hx119_0 | skip)
                                                  obtain ⟨hx79_0, hf79_0⟩ := Kd.R_celln false HO_10.out (x13_3 : Int) p79 q79
                                                  replace p79 := eq_true p79
                                                  replace q79 := eq_true q79
                                                  have HP86 := Kd.R_putg HO_10.out (x13_3 : Int) true
                                                  go_wp2_with (first | ((with_reducible refine gate_store (t := 4) (p := 116) rfl ?_); refine store_event (t := 4) (p := 116) (v := ?vo_w87) (w1 := (wr.setCell ⟨go9118, (x13_3 : Int).toNat, none⟩ (.bool true))) ?hg ?ho ?hn ?hr ?_; (case ho => rfl); (case hg => rfl); (case hn => rfl); (case hr => first | (go_simp; done) | (go_simp; rfl)); intro w87 hw; have hg : wr.grownBy w87 (some go9118) := (by rw [hw]; exact HP86.2); have hp_ : Kd.R Kd.bool 4 w87 w.heap.size (fun _ => True) (.slice (some ⟨go9118, 0, none⟩) x10_3.length co74) y120 := (by rw [hw, Ny120.out]; exact HP86.1); clear HP86; have n0_ := Aside0.mk (Kd.R_over' (v := (.slice (some ⟨go9118, 0, none⟩) x10_3.length co74)) (by (with_reducible repeat (first | apply Kd.R_alloc | apply Kd.R_drewN | apply Kd.R_drew)); exact HO_6.out) (Kd.R_typed HO_10.out) (by decide) hg); have n1_ := Aside0.mk (hp_); have n2_ := Aside0.mk ((by rw [hw]; exact below_set (HB.out) GB79.out : Below w.heap.size w w87)); clear HO_6; clear HO_10; clear HB; have HO_6 := n0_; have HO_10 := n1_; have HB := n2_; clear n0_ n1_ n2_; clear hg hw hp_; obtain ⟨Ao88, co88, eo88⟩ := Kd.R_slice HO_6.out; subst eo88; have p121 : 0 ≤ (x13_3 : Int) := of_decide_eq_true (by first | (with_reducible assumption) | assumption); have q121 : x13_3 < (x6_1.length : Int) := of_decide_eq_true (by first | (with_reducible assumption) | assumption); obtain ⟨ad121, e121, hx121_0⟩ := Kd.at_int (Kd.R_reads' HO_6.out).2.2 x13_3 p121 q121; cases e121; replace p121 := eq_true p121; replace q121 := eq_true q121; have p83 : 0 ≤ ((rd x6_1 x13_3) : Int) := of_decide_eq_true (by first | (with_reducible assumption) | assumption); have q83 : ((rd x6_1 x13_3) : Int) < ((x10_3.length : Int) : Int) := of_decide_eq_true (by first | (with_reducible assumption) | assumption); obtain ⟨hx83_0, hf83_0⟩ := Kd.R_celln false HO_10.out ((rd x6_1 x13_3) : Int) p83 q83; replace p83 := eq_true p83; replace q83 := eq_true q83; obtain ⟨hy89_, hz89_⟩ := Kd.R_celln false HO_10.out ((rd x6_1 x13_3) : Int) (of_decide_eq_true (by first | (with_reducible assumption) | assumption)) (of_decide_eq_true (by first | (with_reducible assumption) | assumption)); have HP89 := Kd.R_putg HO_10.out ((rd x6_1 x13_3) : Int) true) | ((with_reducible refine gate_store (t := 4) (p := 123) rfl ?_); refine store_event (t := 4) (p := 123) (v := ?vo_w90) (w1 := (w87.setCell ⟨go9118, ((rd x6_1 x13_3) : Int).toNat, none⟩ (.bool true))) ?hg ?ho ?hn ?hr ?_; (case ho => rfl); (case hg => rfl); (case hn => rfl); (case hr => first | (go_simp; done) | (go_simp; rfl)); intro w90 hw; have hg : w87.grownBy w90 (some go9118) := (by rw [hw]; exact HP89.2); have hp_ : Kd.R Kd.bool 4 w90 w.heap.size (fun _ => True) (.slice (some ⟨go9118, 0, none⟩) x10_3.length co74) y122 := (by rw [hw, Ny122.out]; exact HP89.1); clear HP89; have n0_ := Aside0.mk (Kd.R_over' (v := (.slice (some ⟨go9118, 0, none⟩) x10_3.length co74)) (by (with_reducible repeat (first | apply Kd.R_alloc | apply Kd.R_drewN | apply Kd.R_drew)); exact HO_6.out) (Kd.R_typed HO_10.out) (by decide) hg); have n1_ := Aside0.mk (hp_); have n2_ := Aside0.mk ((by rw [hw]; exact below_set (HB.out) GB79.out : Below w.heap.size w w90)); clear HO_6; clear HO_10; clear HB; have HO_6 := n0_; have HO_10 := n1_; have HB := n2_; clear n0_ n1_ n2_; clear hg hw hp_))
                                                  (try simp only [← hl10_3])
                                                  go_roundg k3
                                                  case measure => have := HK1.out; have := HK2.out; have := HK3.out; omega
                                                  case rel => exact ⟨(y122), (Int.tmod (wrap64 ((rd x6_1 x13_3) + 1)) (wrap64 (2 * (l0.length : Int)))), (by first | rfl | (simp; done) | (simp [*]; done)), H', ⟨by have := HK1.out; have := HK2.out; have := HK3.out; omega⟩, ⟨by (try simp only [hl10_3]); (with_reducible repeat (first | apply Kd.R_alloc | apply Kd.R_drewN | apply Kd.R_drew)); exact HO_6.out⟩, ⟨by (try simp only [hl10_3]); (with_reducible repeat (first | apply Kd.R_alloc | apply Kd.R_drewN | apply Kd.R_drew)); exact HO_10.out⟩, ⟨by repeat (first | (with_reducible first | exact HB.out | apply below_alloc | apply pw_below_drewN | apply below_drew1) | exact HB.out)⟩⟩
                                              · rw [if_neg c84] at H
                                                have c84b0 : ((Int.tmod (rd x6_1 x13_3) 2) == 1) = false := beq_eq_false_iff_ne.mpr c84
                                                have c84b1 : ((Int.tmod (rd x6_1 x13_3) 2) != 1) = true := bne_iff_ne.mpr c84
                                                by_cases c91 : (wrap64 (2 * (l0.length : Int))) = 0
                                                · rw [if_pos c91] at H
                                                  exact absurd H (by simp)
                                                · rw [if_neg c91] at H
                                                  have c91b0 : ((wrap64 (2 * (l0.length : Int))) == 0) = false := beq_eq_false_iff_ne.mpr c91
                                                  have c91b1 : ((wrap64 (2 * (l0.length : Int))) != 0) = true := bne_iff_ne.mpr c91
                                                  have H' := Aside0.mk H
                                                  clear H
                                                  have p119 : 0 ≤ (x13_3 : Int) := of_decide_eq_true (by first | (with_reducible assumption) | assumption)
                                                  have q119 : x13_3 < (x10_3.length : Int) := of_decide_eq_true (by first | (with_reducible assumption) | assumption)
                                                  obtain ⟨ad119, e119, hx119_0⟩ := Kd.at_bool (Kd.R_reads' HO_10.out).2.2 x13_3 p119 q119
                                                  (try rw [← Nbq71.out] at hx119_0)
                                                  (try rw [← Nbq77.out] at hx119_0)
                                                  (first | cases e119 | skip)
                                                  (first | simp only [add_plain] at hx119_0 | skip)
                                                  replace p119 := eq_true p119
                                                  replace q119 := eq_true q119
                                                  have p79 : 0 ≤ (x13_3 : Int) := of_decide_eq_true (by first | (with_reducible assumption) | assumption)
                                                  have q79 : (x13_3 : Int) < ((x10_3.length : Int) : Int) := of_decide_eq_true (by first | (with_reducible assumption) | assumption)
                                                  obtain ⟨go79, co79, eo79, gb79, gl79, cl79, HG79⟩ := Kd.R_form HO_10.out (by omega)
                                                  (first | cases eo79 | (injection eo79 with ea_ en_ ec_; (first | subst ea_ | (injection ea_ with ea_; subst ea_)); subst ec_; clear en_))
                                                  have GB79 := Aside0.mk gb79
                                                  have GG79 := Aside0.mk HG79
                                                  clear gb79 gl79 HG79
                                                  (first | simp only [add_plain] at hx119_0 | skip)
                                                  obtain ⟨hx79_0, hf79_0⟩ := Kd.R_celln false HO_10.out (x13_3 : Int) p79 q79
                                                  replace p79 := eq_true p79
                                                  replace q79 := eq_true q79
                                                  have HP92 := Kd.R_putg HO_10.out (x13_3 : Int) true
                                                  go_wp2_with (first | ((with_reducible refine gate_store (t := 4) (p := 116) rfl ?_); refine store_event (t := 4) (p := 116) (v := ?vo_w93) (w1 := (wr.setCell ⟨go9118, (x13_3 : Int).toNat, none⟩ (.bool true))) ?hg ?ho ?hn ?hr ?_; (case ho => rfl); (case hg => rfl); (case hn => rfl); (case hr => first | (go_simp; done) | (go_simp; rfl)); intro w93 hw; have hg : wr.grownBy w93 (some go9118) := (by rw [hw]; exact HP92.2); have hp_ : Kd.R Kd.bool 4 w93 w.heap.size (fun _ => True) (.slice (some ⟨go9118, 0, none⟩) x10_3.length co74) y120 := (by rw [hw, Ny120.out]; exact HP92.1); clear HP92; have n0_ := Aside0.mk (Kd.R_over' (v := (.slice (some ⟨go9118, 0, none⟩) x10_3.length co74)) (by (with_reducible repeat (first | apply Kd.R_alloc | apply Kd.R_drewN | apply Kd.R_drew)); exact HO_6.out) (Kd.R_typed HO_10.out) (by decide) hg); have n1_ := Aside0.mk (hp_); have n2_ := Aside0.mk ((by rw [hw]; exact below_set (HB.out) GB79.out : Below w.heap.size w w93)); clear HO_6; clear HO_10; clear HB; have HO_6 := n0_; have HO_10 := n1_; have HB := n2_; clear n0_ n1_ n2_; clear hg hw hp_; obtain ⟨Ao94, co94, eo94⟩ := Kd.R_slice HO_6.out; subst eo94; have p121 : 0 ≤ (x13_3 : Int) := of_decide_eq_true (by first | (with_reducible assumption) | assumption); have q121 : x13_3 < (x6_1.length : Int) := of_decide_eq_true (by first | (with_reducible assumption) | assumption); obtain ⟨ad121, e121, hx121_0⟩ := Kd.at_int (Kd.R_reads' HO_6.out).2.2 x13_3 p121 q121; cases e121; replace p121 := eq_true p121; replace q121 := eq_true q121; have p83 : 0 ≤ ((rd x6_1 x13_3) : Int) := of_decide_eq_true (by first | (with_reducible assumption) | assumption); have q83 : ((rd x6_1 x13_3) : Int) < ((x10_3.length : Int) : Int) := of_decide_eq_true (by first | (with_reducible assumption) | assumption); obtain ⟨hx83_0, hf83_0⟩ := Kd.R_celln false HO_10.out ((rd x6_1 x13_3) : Int) p83 q83; replace p83 := eq_true p83; replace q83 := eq_true q83; obtain ⟨hy95_, hz95_⟩ := Kd.R_celln false HO_10.out ((rd x6_1 x13_3) : Int) (of_decide_eq_true (by first | (with_reducible assumption) | assumption)) (of_decide_eq_true (by first | (with_reducible assumption) | assumption)); have HP95 := Kd.R_putg HO_10.out ((rd x6_1 x13_3) : Int) true) | ((with_reducible refine gate_store (t := 4) (p := 123) rfl ?_); refine store_event (t := 4) (p := 123) (v := ?vo_w96) (w1 := (w93.setCell ⟨go9118, ((rd x6_1 x13_3) : Int).toNat, none⟩ (.bool true))) ?hg ?ho ?hn ?hr ?_; (case ho => rfl); (case hg => rfl); (case hn => rfl); (case hr => first | (go_simp; done) | (go_simp; rfl)); intro w96 hw; have hg : w93.grownBy w96 (some go9118) := (by rw [hw]; exact HP95.2); have hp_ : Kd.R Kd.bool 4 w96 w.heap.size (fun _ => True) (.slice (some ⟨go9118, 0, none⟩) x10_3.length co74) y122 := (by rw [hw, Ny122.out]; exact HP95.1); clear HP95; have n0_ := Aside0.mk (Kd.R_over' (v := (.slice (some ⟨go9118, 0, none⟩) x10_3.length co74)) (by (with_reducible repeat (first | apply Kd.R_alloc | apply Kd.R_drewN | apply Kd.R_drew)); exact HO_6.out) (Kd.R_typed HO_10.out) (by decide) hg); have n1_ := Aside0.mk (hp_); have n2_ := Aside0.mk ((by rw [hw]; exact below_set (HB.out) GB79.out : Below w.heap.size w w96)); clear HO_6; clear HO_10; clear HB; have HO_6 := n0_; have HO_10 := n1_; have HB := n2_; clear n0_ n1_ n2_; clear hg hw hp_))
                                                  (try simp only [← hl10_3])
                                                  go_roundg k3
                                                  case measure => have := HK1.out; have := HK2.out; have := HK3.out; omega
                                                  case rel => exact ⟨(y122), (Int.tmod (wrap64 ((wrap64 ((rd x6_1 x13_3) + (wrap64 (2 * (l0.length : Int))))) - 1)) (wrap64 (2 * (l0.length : Int)))), (by first | rfl | (simp; done) | (simp [*]; done)), H', ⟨by have := HK1.out; have := HK2.out; have := HK3.out; omega⟩, ⟨by (try simp only [hl10_3]); (with_reducible repeat (first | apply Kd.R_alloc | apply Kd.R_drewN | apply Kd.R_drew)); exact HO_6.out⟩, ⟨by (try simp only [hl10_3]); (with_reducible repeat (first | apply Kd.R_alloc | apply Kd.R_drewN | apply Kd.R_drew)); exact HO_10.out⟩, ⟨by repeat (first | (with_reducible first | exact HB.out | apply below_alloc | apply pw_below_drewN | apply below_drew1) | exact HB.out)⟩⟩
                                            · rw [if_neg c82] at H
                                              exact absurd H (by simp)
                                          · rw [if_neg c81] at H
                                            exact absurd H (by simp)
                                        · rw [if_neg c80] at H
                                          exact absurd H (by simp)
                                    · rw [if_neg c76] at H
                                      exact absurd H (by simp)
                                  · rw [if_neg c75] at H
                                    exact absurd H (by simp)
                          · rw [if_neg c70] at H
                            exact absurd H (by simp)
                        · rw [if_neg c69] at H
                          exact absurd H (by simp)
                      · rw [if_neg c68] at H
                        have c68b0 : decide (x12_2 < (wrap64 (2 * (l0.length : Int)))) = false := decide_eq_false c68
                        (try rw [hji4] at c68b0)
                        (try rw [hji63] at c68b0)
                        clear c68
                        obtain rfl := Option.some.inj H
                        go_wp2
                        go_ret
                        exact ⟨by first | rfl | (simp [errW_none, errW_some] <;> rfl) | (simp only [← hji4, ← hji63]; first | rfl | (simp [errW_none, errW_some] <;> rfl)) | (simp [*, errW_none, errW_some] <;> rfl), by repeat (first | (with_reducible first | exact HB.out | apply below_alloc | apply pw_below_drewN | apply below_drew1) | exact HB.out)⟩
                · rw [if_neg c65] at H
                  exact absurd H (by simp)
              · rw [if_neg c64] at H
                exact absurd H (by simp)
      · rw [if_neg c6] at H
        exact absurd H (by simp)
    · rw [if_neg c5] at H
      exact absurd H (by simp)

end Go.Proofs.Ytckmncebedhgeaa.G
