-- Written by the session's program mk.py (which runs the kit's print.py over functions and over contracts given by hand).
import Derived.Test.YtckmncebedhgeaaG0
import Derived.Test.YtckmncebedhgeaaGgI
import Derived.Test.YtckmncebedhgeaaGgK
import Derived.Test.YtckmncebedhgeaaPlainB
import Derived.Test.YtckmncebedhgeaaPlainC2
import Derived.Test.YtckmncebedhgeaaPlainT
namespace Go.Proofs.Ytckmncebedhgeaa.G
open Go.RowKit Go.Maps Go.Proofs.YtckmncebedhgeaaW.PrintWords Go.Proofs.YtckmncebedhgeaaW.PrintLast Go.Proofs.YtckmncebedhgeaaW.PrintMore
attribute [local go_sem] max2_int min2_int max_two min_two max_three min_three max_four min_four   -- for this text's walks alone
set_option linter.unusedVariables false
set_option linter.unusedSimpArgs false

open Go.Proofs.Ytckmncebedhgeaa.Plain
/-! ### impl_circles: function 111, by hand -/
def impl_circles.okAt (p : Int → Option Bool) (k : Nat) (l0 : List Int) (i : Nat) : Bool := decide (impl_places.f k l0 (i : Int) = some ((fstP l0 i : Int), (sndP l0 i : Int))) && ((p i).isSome && decide (fstP l0 i < l0.length ∧ sndP l0 i < l0.length))
def impl_circles.ok (p : Int → Option Bool) (k : Nat) (l0 : List Int) : Bool := decide (l0.length ≤ 12) && (List.range (l0.length / 2)).all (impl_circles.okAt p k l0)
def valQ (p : Int → Option Bool) (i : Int) : Bool := (p i).getD false
def impl_circles.f (p : Int → Option Bool) (k : Nat) (l0 : List Int) : Option Int := if impl_circles.ok p k l0 = true then some ((max (circN l0 (valQ p)) 1 : Nat) : Int) else none
theorem impl_circles.at_ {p : Int → Option Bool} {k : Nat} {l0 : List Int} (h : impl_circles.ok p k l0 = true) {i : Nat} (hi : i < l0.length / 2) : impl_places.f k l0 (i : Int) = some ((fstP l0 i : Int), (sndP l0 i : Int)) ∧ p i = some (valQ p i) ∧ fstP l0 i < l0.length ∧ sndP l0 i < l0.length := by
  unfold impl_circles.ok at h
  rw [Bool.and_eq_true] at h
  have h2 := List.all_eq_true.1 h.2 i (List.mem_range.2 hi)
  unfold impl_circles.okAt at h2
  simp only [Bool.and_eq_true, decide_eq_true_eq] at h2
  refine ⟨h2.1, ?_, h2.2.2⟩
  unfold valQ
  cases hp : p (i : Int) with
  | none => rw [hp] at h2; simp at h2
  | some b => rfl
theorem impl_circles.mono {p p' : Int → Option Bool} (hp : ∀ x, LeO (p x) (p' x)) : ∀ l0 k, LeO (impl_circles.f p k l0) (impl_circles.f p' (k + 1) l0) := by
  intro l0 k r hr
  unfold impl_circles.f at hr ⊢
  by_cases hok : impl_circles.ok p k l0 = true
  · rw [if_pos hok] at hr
    have hok' : impl_circles.ok p' (k + 1) l0 = true := by
      have h0 := hok
      unfold impl_circles.ok at h0 ⊢
      rw [Bool.and_eq_true] at h0 ⊢
      refine ⟨h0.1, List.all_eq_true.2 fun i hi => ?_⟩
      obtain ⟨h1, h2, h3, h4⟩ := impl_circles.at_ hok (List.mem_range.1 hi)
      unfold impl_circles.okAt
      simp only [Bool.and_eq_true, decide_eq_true_eq]
      exact ⟨impl_places.mono _ _ _ _ h1, by rw [hp _ _ h2]; rfl, h3, h4⟩
    rw [if_pos hok', ← hr]
    have e : circN l0 (valQ p) = circN l0 (valQ p') := circN_congr fun j hj => by
      obtain ⟨_, h2, _⟩ := impl_circles.at_ hok hj
      have h3 := hp _ _ h2
      unfold valQ at h3 ⊢
      rw [h3]; rfl
    rw [e]
  · rw [if_neg hok] at hr
    cases hr
set_option maxHeartbeats 16000000 in
set_option maxRecDepth 100000 in
theorem impl_circles.calls (n : Nat) (fn : Func) (hn : Try.prog.funcs[n]? = some fn) (hnm : (fn.name == "runtime.NumGoroutine") = false) (hnb : fn.body.isSome = true) (caps : Array Value) (p : Int → Option Bool) (WB : World) (hp : ∀ (x : Int) (b : Bool) (W : World), Below WB.heap.size WB W → p x = some b → Calls Try.prog n (#[.int .i64 x] ++ caps) W fun e w' => e = .returned (.bool b) ∧ ∃ nd, w' = W.drewN nd) (k : Nat) (A0 : Option Addr) (c0 : Nat) (l0 : List Int) (r : Int) (w : World) (hWB : Below WB.heap.size WB w) (hr0 : Kd.C (Kd.int .i64) w A0 l0.length l0) (hc0 : l0.length ≤ c0) (h : impl_circles.f p k l0 = some r) :
    Calls Try.prog 111 #[.slice A0 l0.length c0, .func (.func n) #[] caps] w fun e w' => e = .returned (.int .i64 r) ∧ Below w.heap.size w w' := by
  unfold impl_circles.f at h
  by_cases hok : impl_circles.ok p k l0 = true
  · rw [if_pos hok] at h
    obtain rfl := Option.some.inj h
    clear h
    have hl12 : l0.length ≤ 12 := by
      unfold impl_circles.ok at hok
      rw [Bool.and_eq_true] at hok
      exact of_decide_eq_true hok.1
    obtain ⟨N, hN⟩ : ∃ N, l0.length / 2 = N := ⟨_, rfl⟩
    have HAT := Aside0.mk (fun (i : Nat) (hi : i < N) => impl_circles.at_ hok (i := i) (by rw [hN]; exact hi))
    have HN := Aside0.mk hN
    clear hN
    clear hok
    have HR0 := Aside0.mk hr0
    have HC0 := Aside0.mk hc0
    clear hr0 hc0
    have HB := Aside0.mk (Below.refl w.heap.size w)
    have HPC := Aside0.mk hp
    have HWB := Aside0.mk hWB
    clear hp hWB
    have he : ∀ (x : Int) (W : World), Sem.run Try.prog (callFunc n (#[Value.int .i64 x] ++ caps)) W = .ok (.enter n (#[Value.int .i64 x] ++ caps)) W := fun x W => enters_ hn hnm hnb _ W
    obtain ⟨M, hM⟩ : ∃ M, 2 * l0.length = M := ⟨_, rfl⟩
    have HM := Aside0.mk hM
    have hwM : IntKind.i64.wrap (2 * (l0.length : Int)) = (M : Int) := by rw [Go.wrap_small _ (by omega) (by omega)]; omega
    have HL := Aside0.mk hl12
    clear hM hl12
    go_enter Try.func111, Try.ntmps111
    try go_wp2
    have n0_ := Aside0.mk (below_drew1 HB.out)
    clear HB
    have HB := n0_
    clear n0_
    refine start_ (n := 6) (S := fun w' => True) (ds := []) #[false, false, false, false, false, false] (by kernel_rfl) rfl rfl trivial (fun hHeld => ?_)
    generalize w.drew = w1 at HB hHeld ⊢
    refine pure_ (i := 0) (N := some 22) (v := ?_) (a' := ?_) #[true, false, false, false, false, false] rfl rfl (by kernel_rfl) (fun _ _ _ h => h) (Or.inl ⟨by rfl, ?_⟩) ?_ ?_
    rotate_left
    · intro w'
      go_simp
      with_reducible rfl
    rotate_left
    · simp only [Act.put, List.setIfInBounds_toArray, List.set_cons_zero, List.set_cons_succ, i64_w, i32_w]
      rfl
    refine pure_ (i := 2) (N := some 24) (v := ?_) (a' := ?_) #[true, false, true, false, false, false] rfl rfl (by kernel_rfl) (fun _ _ _ h => h) (Or.inl ⟨by rfl, ?_⟩) ?_ ?_
    rotate_left
    · intro w'
      go_simp
      with_reducible rfl
    rotate_left
    · simp only [Act.put, List.setIfInBounds_toArray, List.set_cons_zero, List.set_cons_succ, i64_w, i32_w]
      rfl
    refine join_ (σ := Value × Value) 1 #[true, true, true, true, true, false] (fun s_ => [(23, s_.1), (25, s_.2), (6, s_.1)]) (fun s_ w' => (Kd.R (Kd.int .i64) 3 w' w.heap.size (fun k_ => some k_ ≠ (s_.2 : Value).ownBlock) s_.1 (List.replicate M 0)) ∧ (Kd.R (Kd.int .i64) 3 w' w.heap.size (fun k_ => some k_ ≠ (s_.1 : Value).ownBlock) s_.2 (List.replicate M 0)) ∧ (Below w.heap.size w w')) ?_ ?_
    rotate_left
    · intro hCont
      refine two_ (i := 1) (j := 3) (Ni := some 23) (Nj := some 25) #[true, true, true, false, false, false] #[true, false, true, true, false, false] rfl rfl rfl rfl (by kernel_rfl) (by decide) (by decide) (fun K hK => ?_) (fun K hK => ?_)
      · skip
        refine Kd.R_make_step (Kd.int .i64) _ 3 (by rfl) (N := 23) rfl 101 _ _ rfl (M : Int) rfl rfl Try.underlying101 (.int .i64 0) 8 info3 rfl (by decide) (by omega) 0 (ok := fun _ => True) (okp := fun _ => True) rfl (fun _ hk => hk) trivial (by omega) (by have := HM.out; have := HL.out; omega) (Below.refl _ _) (Nat.le_refl _) ?_
        intro v1 w2 ho hb hg_ hnew_
        clear hg_ hnew_
        rw [Int.toNat_natCast] at ho
        have n0_ := Aside0.mk (Kd.R_lower ho (below_size (by repeat (first | (with_reducible first | exact HB.out | apply below_alloc | apply pw_below_drewN | apply below_drew1) | exact HB.out))))
        have n1_ := Aside0.mk (below_step (by repeat (first | (with_reducible first | exact HB.out | apply below_alloc | apply pw_below_drewN | apply below_drew1) | exact HB.out)) hb)
        clear HB
        have HOa := n0_
        have HB := n1_
        clear n0_ n1_ hb ho
        refine hK.out _ _ trivial (fun hHeld => ?_)
        clear hK K
        refine norm_ (a' := ?_) ?_ ?_
        rotate_left
        · show Act.put _ (some 23) _ = _
          simp only [Act.put, List.setIfInBounds_toArray, List.set_cons_zero, List.set_cons_succ, i64_w, i32_w]
          rfl
        refine pure_ (i := 4) (N := some 6) (v := ?_) (a' := ?_) #[true, true, true, false, true, false] rfl rfl (by kernel_rfl) (fun _ _ _ h => h) (Or.inl ⟨by rfl, ?_⟩) ?_ ?_
        rotate_left
        · intro w'
          go_simp
          with_reducible rfl
        rotate_left
        · simp only [Act.put, List.setIfInBounds_toArray, List.set_cons_zero, List.set_cons_succ, i64_w, i32_w]
          rfl
        refine one_ (i := 3) (N := some 25) #[true, true, true, true, true, false] rfl rfl (by kernel_rfl) (by decide) (fun K hK => ?_)
        refine Kd.R_make_step (Kd.int .i64) _ 3 (by rfl) (N := 25) rfl 101 _ _ rfl (M : Int) rfl rfl Try.underlying101 (.int .i64 0) 8 info3 rfl (by decide) (by omega) 0 (ok := fun _ => True) (okp := fun _ => True) rfl (fun _ hk => hk) trivial (by omega) (by have := HM.out; have := HL.out; omega) (Below.refl _ _) (Nat.le_refl _) ?_
        intro v2 w3 ho hb hg_ hnew_
        clear hg_ hnew_
        rw [Int.toNat_natCast] at ho
        have n0_ := Aside0.mk (Kd.R_elder' (by (with_reducible repeat (first | apply Kd.R_alloc | apply Kd.R_drewN | apply Kd.R_drew)); exact HOa.out) (Kd.R_base ho) hb)
        have n1_ := Aside0.mk (Kd.R_lower (Kd.R_new' ho (Kd.R_lt (by (with_reducible repeat (first | apply Kd.R_alloc | apply Kd.R_drewN | apply Kd.R_drew)); exact HOa.out))) (below_size (by repeat (first | (with_reducible first | exact HB.out | apply below_alloc | apply pw_below_drewN | apply below_drew1) | exact HB.out))))
        have n2_ := Aside0.mk (below_step (by repeat (first | (with_reducible first | exact HB.out | apply below_alloc | apply pw_below_drewN | apply below_drew1) | exact HB.out)) hb)
        clear HOa HB
        have HOa := n0_
        have HOb := n1_
        have HB := n2_
        clear n0_ n1_ n2_ hb ho
        refine hK.out _ _ trivial (fun hHeld => ?_)
        clear hK K
        refine norm_ (a' := ?_) ?_ ?_
        rotate_left
        · show Act.put _ (some 25) _ = _
          simp only [Act.put, List.setIfInBounds_toArray, List.set_cons_zero, List.set_cons_succ, i64_w, i32_w]
          rfl
        exact norm_ (by simp only [putAll, Act.put, List.setIfInBounds_toArray, List.set_cons_zero, List.set_cons_succ]) (hCont (v1, v2) _ ⟨Kd.R_mono HOa.out (fun _ hk => hk.2), Kd.R_mono HOb.out (fun _ hk => hk.2), HB.out⟩)
      · skip
        refine Kd.R_make_step (Kd.int .i64) _ 3 (by rfl) (N := 25) rfl 101 _ _ rfl (M : Int) rfl rfl Try.underlying101 (.int .i64 0) 8 info3 rfl (by decide) (by omega) 0 (ok := fun _ => True) (okp := fun _ => True) rfl (fun _ hk => hk) trivial (by omega) (by have := HM.out; have := HL.out; omega) (Below.refl _ _) (Nat.le_refl _) ?_
        intro v2 w2 ho hb hg_ hnew_
        clear hg_ hnew_
        rw [Int.toNat_natCast] at ho
        have n0_ := Aside0.mk (Kd.R_lower ho (below_size (by repeat (first | (with_reducible first | exact HB.out | apply below_alloc | apply pw_below_drewN | apply below_drew1) | exact HB.out))))
        have n1_ := Aside0.mk (below_step (by repeat (first | (with_reducible first | exact HB.out | apply below_alloc | apply pw_below_drewN | apply below_drew1) | exact HB.out)) hb)
        clear HB
        have HOb := n0_
        have HB := n1_
        clear n0_ n1_ hb ho
        refine hK.out _ _ trivial (fun hHeld => ?_)
        clear hK K
        refine norm_ (a' := ?_) ?_ ?_
        rotate_left
        · show Act.put _ (some 25) _ = _
          simp only [Act.put, List.setIfInBounds_toArray, List.set_cons_zero, List.set_cons_succ, i64_w, i32_w]
          rfl
        refine one_ (i := 1) (N := some 23) #[true, true, true, true, false, false] rfl rfl (by kernel_rfl) (by decide) (fun K hK => ?_)
        refine Kd.R_make_step (Kd.int .i64) _ 3 (by rfl) (N := 23) rfl 101 _ _ rfl (M : Int) rfl rfl Try.underlying101 (.int .i64 0) 8 info3 rfl (by decide) (by omega) 0 (ok := fun _ => True) (okp := fun _ => True) rfl (fun _ hk => hk) trivial (by omega) (by have := HM.out; have := HL.out; omega) (Below.refl _ _) (Nat.le_refl _) ?_
        intro v1 w3 ho hb hg_ hnew_
        clear hg_ hnew_
        rw [Int.toNat_natCast] at ho
        have n0_ := Aside0.mk (Kd.R_elder' (by (with_reducible repeat (first | apply Kd.R_alloc | apply Kd.R_drewN | apply Kd.R_drew)); exact HOb.out) (Kd.R_base ho) hb)
        have n1_ := Aside0.mk (Kd.R_lower (Kd.R_new' ho (Kd.R_lt (by (with_reducible repeat (first | apply Kd.R_alloc | apply Kd.R_drewN | apply Kd.R_drew)); exact HOb.out))) (below_size (by repeat (first | (with_reducible first | exact HB.out | apply below_alloc | apply pw_below_drewN | apply below_drew1) | exact HB.out))))
        have n2_ := Aside0.mk (below_step (by repeat (first | (with_reducible first | exact HB.out | apply below_alloc | apply pw_below_drewN | apply below_drew1) | exact HB.out)) hb)
        clear HOb HB
        have HOb := n0_
        have HOa := n1_
        have HB := n2_
        clear n0_ n1_ n2_ hb ho
        refine hK.out _ _ trivial (fun hHeld => ?_)
        clear hK K
        refine norm_ (a' := ?_) ?_ ?_
        rotate_left
        · show Act.put _ (some 23) _ = _
          simp only [Act.put, List.setIfInBounds_toArray, List.set_cons_zero, List.set_cons_succ, i64_w, i32_w]
          rfl
        refine pure_ (i := 4) (N := some 6) (v := ?_) (a' := ?_) #[true, true, true, true, true, false] rfl rfl (by kernel_rfl) (fun _ _ _ h => h) (Or.inl ⟨by rfl, ?_⟩) ?_ ?_
        rotate_left
        · intro w'
          go_simp
          with_reducible rfl
        rotate_left
        · simp only [Act.put, List.setIfInBounds_toArray, List.set_cons_zero, List.set_cons_succ, i64_w, i32_w]
          rfl
        exact norm_ (by simp only [putAll, Act.put, List.setIfInBounds_toArray, List.set_cons_zero, List.set_cons_succ]) (hCont (v1, v2) _ ⟨Kd.R_mono HOa.out (fun _ hk => hk.2), Kd.R_mono HOb.out (fun _ hk => hk.2), HB.out⟩)
    rintro ⟨v1, v2⟩ w4 ⟨h0_, h1_, h2_⟩
    clear HB
    have HB := Aside0.mk h2_
    have HOa := Aside0.mk (show Kd.R (Kd.int .i64) 3 w4 w.heap.size (fun k_ => some k_ ≠ (v2 : Value).ownBlock) v1 (List.replicate M 0) from h0_)
    have HOb := Aside0.mk (show Kd.R (Kd.int .i64) 3 w4 w.heap.size (fun k_ => some k_ ≠ (v1 : Value).ownBlock) v2 (List.replicate M 0) from h1_)
    clear h0_ h1_ h2_
    have hHeld := trivial
    refine norm_ (a' := ?_) ?_ ?_
    rotate_left
    · simp only [putAll, Act.put, List.setIfInBounds_toArray, List.set_cons_zero, List.set_cons_succ]
      rfl
    refine pure_ (i := 5) (N := some 7) (v := ?_) (a' := ?_) #[true, true, true, true, true, true] rfl rfl (by kernel_rfl) (fun _ _ _ h => h) (Or.inl ⟨by rfl, ?_⟩) ?_ ?_
    rotate_left
    · intro w'
      go_simp
      with_reducible rfl
    rotate_left
    · simp only [Act.put, List.setIfInBounds_toArray, List.set_cons_zero, List.set_cons_succ, i64_w, i32_w]
      rfl
    refine done_ (by kernel_rfl) ?_
    obtain ⟨Aa, ca, ea⟩ := Kd.R_slice HOa.out
    obtain ⟨Ab, cb, eb⟩ := Kd.R_slice HOb.out
    rw [List.length_replicate] at ea eb
    subst ea
    subst eb
    go_wp2
    go_loopg [28] (l0.length + 1) (fun kq v28 w' => ∃ (t : Nat) (R : List Int), v28 = .int .i64 t ∧ Aside0 (t ≤ l0.length) ∧ Aside0 (kq = l0.length + 1 - t) ∧ Aside0 (Places M R) ∧ Aside0 (ringF M (l0.length - t) t R = ringF M l0.length 0 (List.replicate M 0)) ∧ Aside0 (Kd.R (Kd.int .i64) 3 w' w.heap.size (fun k_ => some k_ ≠ (.slice Aa M ca : Value).ownBlock) (.slice Ab M cb) R) ∧ Aside0 (Kd.R (Kd.int .i64) 3 w' w.heap.size (fun k_ => some k_ ≠ (.slice Ab M cb : Value).ownBlock) (.slice Aa M ca) (List.replicate M 0)) ∧ Aside0 (Below w.heap.size w w'))
    case atStart => exact ⟨0, _, (by first | rfl | (simp; done)), ⟨Nat.zero_le _⟩, ⟨rfl⟩, ⟨Places.zeros⟩, ⟨by rw [Nat.sub_zero]⟩, HOb, HOa, HB⟩
    case round =>
      clear HOa HOb HB
      obtain ⟨t, R, rfl, HT, HK, HP, HE, HOb, HOa, HB⟩ := hrel
      by_cases c : t < l0.length
      · have c1 : decide ((t : Int) < (l0.length : Int)) = true := decide_eq_true (by omega)
        have c2 : decide (t < l0.length) = true := decide_eq_true c
        have hMt := HM.out
        have hLt := HL.out
        have h1 : IntKind.i64.wrap (2 * (t : Int)) = ((2 * t : Nat) : Int) := by rw [Go.wrap_small _ (by omega) (by omega)]; omega
        have h2 : IntKind.i64.wrap (((2 * t : Nat) : Int) + 1) = ((2 * t + 1 : Nat) : Int) := by rw [Go.wrap_small _ (by omega) (by omega)]; omega
        have h3 : IntKind.i64.wrap (((2 * t : Nat) : Int) + 2) = ((2 * t + 2 : Nat) : Int) := by rw [Go.wrap_small _ (by omega) (by omega)]; omega
        clear hwM
        cases gk with
        | zero => exact absurd HK.out (by omega)
        | succ k1 =>
        obtain ⟨gb, capb, e0, hgb, hgl, _⟩ := Kd.R_form HOb.out (by have := HP.out.1; omega)
        injection e0 with ea_ en_ ec_
        subst ea_
        subst ec_
        have hlR := HP.out.1
        have GB := Aside0.mk hgb
        clear en_ hgb hgl h1 h2 h3
        have hMp : (0 : Int) < (M : Int) := by omega
        have hm0 : (0 : Int) ≤ (2 * (t : Int) + 2) % (M : Int) := Int.emod_nonneg _ (by omega)
        have hm1 : (2 * (t : Int) + 2) % (M : Int) < (M : Int) := Int.emod_lt_of_pos _ hMp
        obtain ⟨hx1, hf1⟩ := Kd.R_celln 0 HOb.out ((2 * t + 1 : Nat) : Int) (by omega) (by omega)
        have HP1 := Kd.R_putg HOb.out ((2 * t + 1 : Nat) : Int) ((2 * (t : Int) + 2) % (M : Int))
        rw [Int.toNat_natCast] at hx1 hf1 HP1
        have hme : (((2 * t + 2) % M : Nat) : Int) = (2 * (t : Int) + 2) % (M : Int) := by simp
        obtain ⟨hx2, hf2⟩ := Kd.R_celln 0 HP1.1 (((2 * t + 2) % M : Nat) : Int) (by omega) (by omega)
        have HP2 := Kd.R_putg HP1.1 (((2 * t + 2) % M : Nat) : Int) (2 * (t : Int) + 1)
        rw [Int.toNat_natCast] at hx2 hf2 HP2
        have p1 : (0 ≤ 2 * (t : Int) + 1) = True := eq_true (by omega)
        have q1 : (2 * (t : Int) + 1 < (M : Int)) = True := eq_true (by omega)
        have p2 := eq_true hm0
        have q2 := eq_true hm1
        go_wp2
        have hrs : ringS M R t = (R.set (2 * t + 1) ((2 * (t : Int) + 2) % (M : Int))).set ((2 * t + 2) % M) (2 * (t : Int) + 1) := by
          unfold ringS
          rw [hme]
          rfl
        go_roundg k1
        case measure => omega
        case rel =>
          refine ⟨t + 1, ringS M R t, (by first | rfl | (simp; done)), ⟨by omega⟩, ⟨by have := HK.out; omega⟩, ⟨ringS_ok HP.out (by omega)⟩, ⟨?_⟩, ⟨by rw [hrs]; exact HP2.1⟩, ⟨Kd.R_far (p := ⟨gb, (2 * t + 2) % M, none⟩) (Kd.R_far (p := ⟨gb, 2 * t + 1, none⟩) HOa.out (fun k_ hk e_ => hk (by rw [e_]; rfl)) _) (fun k_ hk e_ => hk (by rw [e_]; rfl)) _⟩, ⟨below_set (below_set HB.out GB.out) GB.out⟩⟩
          have h4 : l0.length - t = (l0.length - (t + 1)) + 1 := by omega
          have h5 := HE.out
          rw [h4] at h5
          exact h5
      · have c1 : decide ((t : Int) < (l0.length : Int)) = false := decide_eq_false (by omega)
        have c2 : decide (t < l0.length) = false := decide_eq_false c
        have ht : t = l0.length := by have := HT.out; omega
        subst ht
        have HE2 := Aside0.mk (show R = ringF M l0.length 0 (List.replicate M 0) by have h5 := HE.out; rw [Nat.sub_self] at h5; exact h5)
        clear HE HK HT c
        have hch : impl_chords.f l0 = some (N : Int) := by
          unfold impl_chords.f
          have e2 : (l0.length : Int) / 2 = ((l0.length / 2 : Nat) : Int) := rfl
          rw [e2, ← i64_w, HN.out]
          congr 1
          have := HL.out
          have := HN.out
          exact Go.wrap_small _ (by omega) (by omega)
        go_wp2_with (first | (go_at_call 88; (with_reducible refine (impl_chords.calls _ _ l0 _ _ (Kd.C_below HR0.out HB.out) HC0.out hch).mono ?_)))
        rintro e w5 ⟨rfl, ⟨nd, rfl⟩⟩
        have n0_ := Aside0.mk (Kd.R_drewN HOa.out nd)
        have n1_ := Aside0.mk (Kd.R_drewN HOb.out nd)
        have n2_ := Aside0.mk (pw_below_drewN HB.out nd)
        clear HOa HOb HB hch
        generalize wr.drewN nd = w5 at n0_ n1_ n2_ ⊢
        have HOa := n0_
        have HOb := n1_
        have HB := n2_
        clear n0_ n1_ n2_
        go_wp2
        have hN6 : N ≤ 6 := by have := HL.out; have := HN.out; omega
        have HN6 := Aside0.mk hN6
        clear hN6
        obtain ⟨q, hq⟩ : ∃ q : Int → Bool, q = valQ p := ⟨_, rfl⟩
        have HQ := Aside0.mk hq
        clear hq
        go_loopg [54] (N + 1) (fun kq v54 w' => ∃ (i : Nat) (B : List Int), v54 = .int .i64 i ∧ Aside0 (i ≤ N) ∧ Aside0 (kq = N + 1 - i) ∧ Aside0 (Places M B) ∧ Aside0 (bandF l0 q (N - i) i B = bandF l0 q N 0 (List.replicate M 0)) ∧ Aside0 (Kd.R (Kd.int .i64) 3 w' w.heap.size (fun k_ => some k_ ≠ (.slice Aa M ca : Value).ownBlock) (.slice Ab M cb) R) ∧ Aside0 (Kd.R (Kd.int .i64) 3 w' w.heap.size (fun k_ => some k_ ≠ (.slice Ab M cb : Value).ownBlock) (.slice Aa M ca) B) ∧ Aside0 (Below w.heap.size w w'))
        case atStart => exact ⟨0, _, (by first | rfl | (simp; done)), ⟨Nat.zero_le _⟩, ⟨rfl⟩, ⟨Places.zeros⟩, ⟨by rw [Nat.sub_zero]⟩, HOb, HOa, HB⟩
        case round =>
          clear HOa HOb HB
          obtain ⟨i, B, rfl, HI, HK, HPB, HE, HOb, HOa, HB⟩ := hrel
          by_cases ci : i < N
          · have ci1 : decide ((i : Int) < (N : Int)) = true := decide_eq_true (by omega)
            have ci2 : decide (i < N) = true := decide_eq_true ci
            have HCI := Aside0.mk ci
            obtain ⟨hpl, hpi, hfa, hfc⟩ := HAT.out i ci
            have HPI := Aside0.mk hpi
            have HFA := Aside0.mk hfa
            have HFC := Aside0.mk hfc
            clear hpi ci hfa hfc
            obtain ⟨a, ha⟩ : ∃ a, fstP l0 (i : Int) = a := ⟨_, rfl⟩
            obtain ⟨c, hc⟩ : ∃ c, sndP l0 (i : Int) = c := ⟨_, rfl⟩
            rw [ha, hc] at hpl
            have ha12 : a < 12 := by have := HFA.out; have := HL.out; omega
            have hc12 : c < 12 := by have := HFC.out; have := HL.out; omega
            have HA_ := Aside0.mk ha
            have HC_ := Aside0.mk hc
            clear ha hc
            cases gk with
            | zero => exact absurd HK.out (by have := HCI.out; omega)
            | succ k1 =>
            go_wp2_with (first | (go_at_call 145; (with_reducible refine (impl_places.calls k _ _ l0 (i : Int) (a : Int) (c : Int) _ (Kd.C_below HR0.out HB.out) HC0.out hpl).mono ?_)))
            rintro e w6 ⟨rfl, ⟨nd, rfl⟩⟩
            have n0_ := Aside0.mk (Kd.R_drewN HOa.out nd)
            have n1_ := Aside0.mk (Kd.R_drewN HOb.out nd)
            have n2_ := Aside0.mk (pw_below_drewN HB.out nd)
            clear HOa HOb HB hpl
            generalize wr.drewN nd = w6 at n0_ n1_ n2_ ⊢
            have HOa := n0_
            have HOb := n1_
            have HB := n2_
            clear n0_ n1_ n2_
            go_wp2_with (first | ((with_reducible refine gate_dst (N := 12) rfl ?_); refine box_event ?hg (N := 12) ?hd (cs := #[.int .i64 0, .int .i64 0]) (t := 109) ?hr ?_; (case hd => rfl); (case hg => rfl); (case hr => first | (go_simp; done) | (go_simp; rfl)); intro ge hg w7 hbox hb; have n0_ := Aside0.mk (Kd.R_below HOa.out hb); have n1_ := Aside0.mk (Kd.R_below HOb.out hb); have n2_ := Aside0.mk (below_step HB.out hb); have n3_ := Aside0.mk ((by rw [hg]; exact HB.out.size : w.heap.size ≤ ge)); have n4_ := Aside0.mk (fun k_ (h_ : some k_ = (.slice Aa M ca : Value).ownBlock) => (by have h2_ := Kd.R_lt HOa.out k_ h_.symm; omega : k_ ≠ ge)); have n5_ := Aside0.mk (fun k_ (h_ : some k_ = (.slice Ab M cb : Value).ownBlock) => (by have h2_ := Kd.R_lt HOb.out k_ h_.symm; omega : k_ ≠ ge)); clear HOa HOb HB; have HOa := n0_; have HOb := n1_; have HB := n2_; have GE := n3_; have NEa := n4_; have NEb := n5_; clear n0_ n1_ n2_ n3_ n4_ n5_; have BK := Aside0.mk hbox; clear hb hg hbox; have hz0 : w7.cell? ⟨ge, 0, none⟩ = some (.int .i64 0) := (blk_cell BK.out 0).trans rfl; have hz1 : w7.cell? ⟨ge, 1, none⟩ = some (.int .i64 0) := (blk_cell BK.out 1).trans rfl; have hzf0 := blk_frozen BK.out 0; have hzf1 := blk_frozen BK.out 1))
            have n0_ := Aside0.mk (Kd.R_set (Kd.R_set HOa.out BK.out (by decide) 0 (.int .i64 (2 * (c : Int) + 1))) (blk_put BK.out 0 _ rfl) (by decide) 1 (.int .i64 (2 * (c : Int))))
            have n1_ := Aside0.mk (Kd.R_set (Kd.R_set HOb.out BK.out (by decide) 0 (.int .i64 (2 * (c : Int) + 1))) (blk_put BK.out 0 _ rfl) (by decide) 1 (.int .i64 (2 * (c : Int))))
            have n2_ := Aside0.mk (below_set (j := 1) (v := .int .i64 (2 * (c : Int))) (below_set (j := 0) (v := .int .i64 (2 * (c : Int) + 1)) HB.out GE.out) GE.out)
            have n3_ := Aside0.mk (blk_put (blk_put BK.out 0 (.int .i64 (2 * (c : Int) + 1)) rfl) 1 (.int .i64 (2 * (c : Int))) rfl)
            clear HOa HOb HB BK hz0 hz1 hzf0 hzf1 NEa NEb
            generalize (w7.setCell ⟨ge, 0, none⟩ (.int .i64 (2 * (c : Int) + 1))).setCell ⟨ge, 1, none⟩ (.int .i64 (2 * (c : Int))) = w8 at n0_ n1_ n2_ n3_ ⊢
            have HOa := n0_
            have HOb := n1_
            have HB := n2_
            have BK := n3_
            clear n0_ n1_ n2_ n3_
            have hPIq := HPI.out
            rw [← HQ.out] at hPIq
            cases hv : q (i : Int) with
            | true =>
              rw [hv] at hPIq
              refine (HPC.out (i : Int) true _ (below_step HWB.out HB.out) hPIq).mono ?_
              rintro e w9 ⟨rfl, ⟨nd, rfl⟩⟩
              have n0_ := Aside0.mk (Kd.R_drewN HOa.out nd)
              have n1_ := Aside0.mk (Kd.R_drewN HOb.out nd)
              have n2_ := Aside0.mk (pw_below_drewN HB.out nd)
              have n3_ := Aside0.mk (blk_drewN BK.out nd)
              clear HOa HOb HB BK
              generalize w8.drewN nd = w9 at n0_ n1_ n2_ n3_ ⊢
              have HOa := n0_
              have HOb := n1_
              have HB := n2_
              have BK := n3_
              clear n0_ n1_ n2_ n3_
              have hz0 : w9.cell? ⟨ge, 0, none⟩ = some (.int .i64 (2 * (c : Int) + 1)) := (blk_cell BK.out 0).trans rfl
              have hz1 : w9.cell? ⟨ge, 1, none⟩ = some (.int .i64 (2 * (c : Int))) := (blk_cell BK.out 1).trans rfl
              have hzf0 := blk_frozen BK.out 0
              have hzf1 := blk_frozen BK.out 1
              go_wp2_with (first | ((with_reducible refine gate_store (t := 109) (p := 12) rfl ?_); refine store_event (t := 109) (p := 12) (v := ?vo_) (w1 := ((w9.setCell ⟨ge, 0, none⟩ (.int .i64 (2 * (c : Int)))).setCell ⟨ge, 1, none⟩ (.int .i64 (2 * (c : Int) + 1)))) ?hg ?ho ?hn ?hr ?_; (case ho => rfl); (case hg => rfl); (case hn => rfl); (case hr => first | (go_simp; done) | (go_simp; rfl)); intro w10 hw; have n0_ := Aside0.mk (show Kd.R (Kd.int .i64) 3 w10 w.heap.size (fun k_ => some k_ ≠ (.slice Ab M cb : Value).ownBlock) (.slice Aa M ca) B by rw [hw]; exact Kd.R_set (Kd.R_set HOa.out BK.out (by decide) 0 _) (blk_put BK.out 0 _ rfl) (by decide) 1 _); have n1_ := Aside0.mk (show Kd.R (Kd.int .i64) 3 w10 w.heap.size (fun k_ => some k_ ≠ (.slice Aa M ca : Value).ownBlock) (.slice Ab M cb) R by rw [hw]; exact Kd.R_set (Kd.R_set HOb.out BK.out (by decide) 0 _) (blk_put BK.out 0 _ rfl) (by decide) 1 _); have n2_ := Aside0.mk (show Below w.heap.size w w10 by rw [hw]; exact below_set (below_set HB.out GE.out) GE.out); have n3_ := Aside0.mk (show w10.heap[ge]? = some (.cells #[.int .i64 (2 * (c : Int)), .int .i64 (2 * (c : Int) + 1)] 109 (0, 0)) by rw [hw]; exact blk_put (blk_put BK.out 0 _ rfl) 1 _ rfl); clear HOa HOb HB BK hz0 hz1 hzf0 hzf1 hw; have HOa := n0_; have HOb := n1_; have HB := n2_; have BK := n3_; clear n0_ n1_ n2_ n3_; have hz0 : w10.cell? ⟨ge, 0, none⟩ = some (.int .i64 (2 * (c : Int))) := (blk_cell BK.out 0).trans rfl; have hz1 : w10.cell? ⟨ge, 1, none⟩ = some (.int .i64 (2 * (c : Int) + 1)) := (blk_cell BK.out 1).trans rfl))
              clear hz0 hz1
              have hMt := HM.out
              obtain ⟨ga, capa, e0, hga, hgl, _⟩ := Kd.R_form HOa.out (by have := HPB.out.1; have := HFA.out; have := HA_.out; omega)
              injection e0 with ea_ en_ ec_
              subst ea_
              subst ec_
              have GA := Aside0.mk hga
              have ha3 : a < l0.length := by have := HFA.out; have := HA_.out; omega
              have hc3 : c < l0.length := by have := HFC.out; have := HC_.out; omega
              have hlB := HPB.out.1
              clear en_ hga hgl
              obtain ⟨hx1, hf1⟩ := Kd.R_celln 0 HOa.out ((2 * a : Nat) : Int) (by omega) (by omega)
              have HP1 := Kd.R_putg HOa.out ((2 * a : Nat) : Int) (2 * (c : Int))
              obtain ⟨hx2, hf2⟩ := Kd.R_celln 0 HP1.1 ((2 * c : Nat) : Int) (by omega) (by omega)
              have HP2 := Kd.R_putg HP1.1 ((2 * c : Nat) : Int) (2 * (a : Int))
              obtain ⟨hx3, hf3⟩ := Kd.R_celln 0 HP2.1 ((2 * a + 1 : Nat) : Int) (by omega) (by omega)
              have HP3 := Kd.R_putg HP2.1 ((2 * a + 1 : Nat) : Int) (2 * (c : Int) + 1)
              obtain ⟨hx4, hf4⟩ := Kd.R_celln 0 HP3.1 ((2 * c + 1 : Nat) : Int) (by omega) (by omega)
              have HP4 := Kd.R_putg HP3.1 ((2 * c + 1 : Nat) : Int) (2 * (a : Int) + 1)
              rw [Int.toNat_natCast] at hx1 hf1
              simp only [Int.toNat_natCast] at hx2 hf2 hx3 hf3 hx4 hf4 HP1 HP2 HP3 HP4
              have p1 : (0 ≤ 2 * (a : Int)) = True := eq_true (by omega)
              have q1 : (2 * (a : Int) < (M : Int)) = True := eq_true (by omega)
              have p2 : (0 ≤ 2 * (a : Int) + 1) = True := eq_true (by omega)
              have q2 : (2 * (a : Int) + 1 < (M : Int)) = True := eq_true (by omega)
              have p3 : (0 ≤ 2 * (c : Int)) = True := eq_true (by omega)
              have q3 : (2 * (c : Int) < (M : Int)) = True := eq_true (by omega)
              have p4 : (0 ≤ 2 * (c : Int) + 1) = True := eq_true (by omega)
              have q4 : (2 * (c : Int) + 1 < (M : Int)) = True := eq_true (by omega)
              have xi0 : ∀ w : World, (Instr.index 109 (.agg #[.int .i64 (2 * (c : Int)), .int .i64 (2 * (c : Int) + 1)]) (.int .i64 0)).run Try.prog w = .ok (.int .i64 (2 * (c : Int))) w := fun _ => by kernel_rfl
              have xi1 : ∀ w : World, (Instr.index 109 (.agg #[.int .i64 (2 * (c : Int)), .int .i64 (2 * (c : Int) + 1)]) (.int .i64 1)).run Try.prog w = .ok (.int .i64 (2 * (c : Int) + 1)) w := fun _ => by kernel_rfl
              refine wp_loop_rounds 3 ?_
              rw [rounds_succ]
              go_wp2
              rw [rounds_succ]
              go_wp2
              rw [rounds_succ]
              go_wp2
              have hbs : bandS l0 q B i = (((B.set (2 * a) (2 * (c : Int))).set (2 * c) (2 * (a : Int))).set (2 * a + 1) (2 * (c : Int) + 1)).set (2 * c + 1) (2 * (a : Int) + 1) := by
                unfold bandS endA endB
                rw [HA_.out, HC_.out, hv]
                rfl
              go_roundg k1
              case measure => omega
              case rel =>
                refine ⟨i + 1, bandS l0 q B i, (by have hwi : wrap64 ((i : Int) + 1) = (i : Int) + 1 := (by rw [← i64_w]; exact Go.wrap_small _ (by omega) (by have := HCI.out; have := HN6.out; omega)); simp [hwi]), ⟨by have := HCI.out; omega⟩, ⟨by have := HK.out; omega⟩, ⟨?_⟩, ⟨?_⟩, ⟨?_⟩, ⟨by rw [hbs]; exact HP4.1⟩, ⟨below_set (below_set (below_set (below_set HB.out GA.out) GA.out) GA.out) GA.out⟩⟩
                · have h9 := bandS_ok (q := q) (i := i) (HM.out ▸ HPB.out) HFA.out HFC.out
                  rw [HM.out] at h9
                  exact h9
                · have h4 : N - i = (N - (i + 1)) + 1 := by have := HCI.out; omega
                  have h5 := HE.out
                  rw [h4] at h5
                  exact h5
                · exact Kd.R_grown (Kd.R_grown (Kd.R_grown (Kd.R_grown HOb.out HP1.2 (fun k_ hk => hk)) HP2.2 (fun k_ hk => hk)) HP3.2 (fun k_ hk => hk)) HP4.2 (fun k_ hk => hk)
            | false =>
              rw [hv] at hPIq
              refine (HPC.out (i : Int) false _ (below_step HWB.out HB.out) hPIq).mono ?_
              rintro e w9 ⟨rfl, ⟨nd, rfl⟩⟩
              have n0_ := Aside0.mk (Kd.R_drewN HOa.out nd)
              have n1_ := Aside0.mk (Kd.R_drewN HOb.out nd)
              have n2_ := Aside0.mk (pw_below_drewN HB.out nd)
              have n3_ := Aside0.mk (blk_drewN BK.out nd)
              clear HOa HOb HB BK
              generalize w8.drewN nd = w9 at n0_ n1_ n2_ n3_ ⊢
              have HOa := n0_
              have HOb := n1_
              have HB := n2_
              have BK := n3_
              clear n0_ n1_ n2_ n3_
              have hz0 : w9.cell? ⟨ge, 0, none⟩ = some (.int .i64 (2 * (c : Int) + 1)) := (blk_cell BK.out 0).trans rfl
              have hz1 : w9.cell? ⟨ge, 1, none⟩ = some (.int .i64 (2 * (c : Int))) := (blk_cell BK.out 1).trans rfl
              have hzf0 := blk_frozen BK.out 0
              have hzf1 := blk_frozen BK.out 1
              go_wp2
              clear hz0 hz1
              have hMt := HM.out
              obtain ⟨ga, capa, e0, hga, hgl, _⟩ := Kd.R_form HOa.out (by have := HPB.out.1; have := HFA.out; have := HA_.out; omega)
              injection e0 with ea_ en_ ec_
              subst ea_
              subst ec_
              have GA := Aside0.mk hga
              have ha3 : a < l0.length := by have := HFA.out; have := HA_.out; omega
              have hc3 : c < l0.length := by have := HFC.out; have := HC_.out; omega
              have hlB := HPB.out.1
              clear en_ hga hgl
              obtain ⟨hx1, hf1⟩ := Kd.R_celln 0 HOa.out ((2 * a : Nat) : Int) (by omega) (by omega)
              have HP1 := Kd.R_putg HOa.out ((2 * a : Nat) : Int) (2 * (c : Int) + 1)
              obtain ⟨hx2, hf2⟩ := Kd.R_celln 0 HP1.1 ((2 * c + 1 : Nat) : Int) (by omega) (by omega)
              have HP2 := Kd.R_putg HP1.1 ((2 * c + 1 : Nat) : Int) (2 * (a : Int))
              obtain ⟨hx3, hf3⟩ := Kd.R_celln 0 HP2.1 ((2 * a + 1 : Nat) : Int) (by omega) (by omega)
              have HP3 := Kd.R_putg HP2.1 ((2 * a + 1 : Nat) : Int) (2 * (c : Int))
              obtain ⟨hx4, hf4⟩ := Kd.R_celln 0 HP3.1 ((2 * c : Nat) : Int) (by omega) (by omega)
              have HP4 := Kd.R_putg HP3.1 ((2 * c : Nat) : Int) (2 * (a : Int) + 1)
              rw [Int.toNat_natCast] at hx1 hf1
              simp only [Int.toNat_natCast] at hx2 hf2 hx3 hf3 hx4 hf4 HP1 HP2 HP3 HP4
              have p1 : (0 ≤ 2 * (a : Int)) = True := eq_true (by omega)
              have q1 : (2 * (a : Int) < (M : Int)) = True := eq_true (by omega)
              have p2 : (0 ≤ 2 * (a : Int) + 1) = True := eq_true (by omega)
              have q2 : (2 * (a : Int) + 1 < (M : Int)) = True := eq_true (by omega)
              have p3 : (0 ≤ 2 * (c : Int)) = True := eq_true (by omega)
              have q3 : (2 * (c : Int) < (M : Int)) = True := eq_true (by omega)
              have p4 : (0 ≤ 2 * (c : Int) + 1) = True := eq_true (by omega)
              have q4 : (2 * (c : Int) + 1 < (M : Int)) = True := eq_true (by omega)
              have xi0 : ∀ w : World, (Instr.index 109 (.agg #[.int .i64 (2 * (c : Int) + 1), .int .i64 (2 * (c : Int))]) (.int .i64 0)).run Try.prog w = .ok (.int .i64 (2 * (c : Int) + 1)) w := fun _ => by kernel_rfl
              have xi1 : ∀ w : World, (Instr.index 109 (.agg #[.int .i64 (2 * (c : Int) + 1), .int .i64 (2 * (c : Int))]) (.int .i64 1)).run Try.prog w = .ok (.int .i64 (2 * (c : Int))) w := fun _ => by kernel_rfl
              refine wp_loop_rounds 3 ?_
              rw [rounds_succ]
              go_wp2
              rw [rounds_succ]
              go_wp2
              rw [rounds_succ]
              go_wp2
              have hbs : bandS l0 q B i = (((B.set (2 * a) (2 * (c : Int) + 1)).set (2 * c + 1) (2 * (a : Int))).set (2 * a + 1) (2 * (c : Int))).set (2 * c) (2 * (a : Int) + 1) := by
                unfold bandS endA endB
                rw [HA_.out, HC_.out, hv]
                rfl
              go_roundg k1
              case measure => omega
              case rel =>
                refine ⟨i + 1, bandS l0 q B i, (by have hwi : wrap64 ((i : Int) + 1) = (i : Int) + 1 := (by rw [← i64_w]; exact Go.wrap_small _ (by omega) (by have := HCI.out; have := HN6.out; omega)); simp [hwi]), ⟨by have := HCI.out; omega⟩, ⟨by have := HK.out; omega⟩, ⟨?_⟩, ⟨?_⟩, ⟨?_⟩, ⟨by rw [hbs]; exact HP4.1⟩, ⟨below_set (below_set (below_set (below_set HB.out GA.out) GA.out) GA.out) GA.out⟩⟩
                · have h9 := bandS_ok (q := q) (i := i) (HM.out ▸ HPB.out) HFA.out HFC.out
                  rw [HM.out] at h9
                  exact h9
                · have h4 : N - i = (N - (i + 1)) + 1 := by have := HCI.out; omega
                  have h5 := HE.out
                  rw [h4] at h5
                  exact h5
                · exact Kd.R_grown (Kd.R_grown (Kd.R_grown (Kd.R_grown HOb.out HP1.2 (fun k_ hk => hk)) HP2.2 (fun k_ hk => hk)) HP3.2 (fun k_ hk => hk)) HP4.2 (fun k_ hk => hk)
          · have ci1 : decide ((i : Int) < (N : Int)) = false := decide_eq_false (by omega)
            have ci2 : decide (i < N) = false := decide_eq_false ci
            have hi : i = N := by have := HI.out; omega
            subst hi
            have HF2 := Aside0.mk (show B = bandF l0 q i 0 (List.replicate M 0) by have h5 := HE.out; rw [Nat.sub_self] at h5; exact h5)
            clear HE HK HI ci
            have hlR := HP.out.1
            have hlB := HPB.out.1
            have HCa := Aside0.mk (show Kd.C (Kd.int .i64) wr Aa B.length B from (Kd.R_reads' HOa.out).2.2)
            have HCb := Aside0.mk (show Kd.C (Kd.int .i64) wr Ab R.length R from (Kd.R_reads' HOb.out).2.2)
            have HBW := HB
            clear HOa HOb HB
            have hMt := HM.out
            have hLt := HL.out
            go_wp2_with (first | ((with_reducible refine gate_dst (N := 100) rfl ?_); refine Kd.R_make Kd.bool _ 4 rfl (N := 100) rfl 67 _ _ rfl (M : Int) rfl rfl Try.underlying67 (.bool false) 1 info4 rfl (by decide) (by omega) false (ok := fun _ => True) (okp := fun _ => True) rfl (fun _ hk => hk) trivial (by omega) (by omega) (Below.refl _ _) (Nat.le_refl _) ?_; intro v3 w10 ho hb hg_ hnew_; clear hg_ hnew_; rw [Int.toNat_natCast] at ho))
            have HOs := Aside0.mk ho
            have HB := Aside0.mk hb
            clear ho hb
            obtain ⟨As, cs, es⟩ := Kd.R_slice HOs.out
            rw [List.length_replicate] at es
            subst es
            have hlt24 : M ≤ 24 := by omega
            have HB0 : Below wr.heap.size wr wr := Below.refl _ _
            obtain ⟨wz, hwz⟩ : ∃ x_ : World, x_ = wr := ⟨_, rfl⟩
            rw [← hwz] at HCa HCb HBW HOs HB HB0
            clear hwz HB0
            go_loopg [16, 102] (M + 1) (fun kq v16 v102 w' => ∃ (s : List Bool) (m i : Nat), v16 = .int .i64 m ∧ v102 = .int .i64 i ∧ Aside0 (i ≤ M) ∧ Aside0 (kq = M + 1 - i) ∧ Aside0 (s.length = M) ∧ Aside0 (m ≤ i) ∧ Aside0 (cycB (bandAt B) (roadAt B R) (M - i) i s m = cycB (bandAt B) (roadAt B R) M 0 (List.replicate M false) 0) ∧ Aside0 (Kd.R Kd.bool 4 w' wz.heap.size (fun _ => True) (.slice As M cs) s) ∧ Aside0 (Below wz.heap.size wz w'))
            case atStart => exact ⟨_, 0, 0, (by first | rfl | (simp; done)), (by first | rfl | (simp; done)), ⟨Nat.zero_le _⟩, ⟨rfl⟩, ⟨by simp⟩, ⟨Nat.le_refl _⟩, ⟨by rw [Nat.sub_zero]⟩, HOs, HB⟩
            case round =>
              clear HOs HB
              obtain ⟨s, m, j, rfl, rfl, HJ, HK, HS, HMJ, HE, HOs, HB⟩ := hrel
              by_cases cj : j < M
              · have cj1 : decide ((j : Int) < (M : Int)) = true := decide_eq_true (by omega)
                have cj2 : decide (j < M) = true := decide_eq_true cj
                have hsl := HS.out
                have hmj := HMJ.out
                cases gk with
                | zero => exact absurd HK.out (by omega)
                | succ k1 =>
                obtain ⟨gs, caps_, e0, hgs, hgl, _⟩ := Kd.R_form HOs.out (by omega)
                injection e0 with ea_ en_ ec_
                subst ea_
                subst ec_
                have GS := Aside0.mk hgs
                clear en_ hgs hgl
                have hx1 := (Kd.R_celln false HOs.out (j : Int) (by omega) (by omega)).1
                rw [Int.toNat_natCast] at hx1
                have hfl : rdOf false s (j : Int) = s.getD j true := by
                  unfold rdOf
                  rw [Int.toNat_natCast, List.getD_eq_getElem?_getD, List.getD_eq_getElem?_getD, List.getElem?_eq_getElem (by omega)]
                  rfl
                rw [hfl] at hx1
                have p1 : (0 ≤ (j : Int)) = True := eq_true (by omega)
                have q1 : ((j : Int) < (M : Int)) = True := eq_true (by omega)
                cases hb : s.getD j true with
                | true =>
                  rw [hb] at hx1
                  go_wp2
                  go_roundg k1
                  case measure => omega
                  case rel =>
                    refine ⟨s, m, j + 1, (by first | rfl | (simp; done)), (by first | rfl | (simp; done)), ⟨by omega⟩, ⟨by have := HK.out; omega⟩, HS, ⟨by omega⟩, ⟨?_⟩, HOs, HB⟩
                    have h4 : M - j = (M - (j + 1)) + 1 := by omega
                    have h5 := HE.out
                    rw [h4, cycB, if_pos hb] at h5
                    exact h5
                | false =>
                  rw [hb] at hx1
                  go_wp2
                  clear hx1 hfl p1 q1
                  have HBJ := Aside0.mk hb
                  clear hb
                  go_loopg [18] (M + 2) (fun kr v18 w' => ∃ (s' : List Bool) (x d : Nat), v18 = .int .i64 x ∧ Aside0 (x < M) ∧ Aside0 (s'.count false < d ∧ s'.count false < kr) ∧ Aside0 (s'.length = M) ∧ Aside0 (walkB (bandAt B) (roadAt B R) d s' x = walkB (bandAt B) (roadAt B R) (s.count false + 1) s j) ∧ Aside0 (Kd.R Kd.bool 4 w' wz.heap.size (fun _ => True) (.slice (some ⟨gs, 0, none⟩) M cs) s') ∧ Aside0 (Below wz.heap.size wz w'))
                  case atStart => exact ⟨s, j, s.count false + 1, (by first | rfl | (simp; done)), ⟨cj⟩, ⟨by have := List.count_le_length (a := false) (l := s); omega⟩, HS, ⟨rfl⟩, HOs, HB⟩
                  case round =>
                    clear HOs HB
                    obtain ⟨s', x, d, rfl, HX, HC2, HS2, HW, HOs, HB⟩ := hrel
                    have hxM := HX.out
                    have hsl2 := HS2.out
                    obtain ⟨d, rfl⟩ : ∃ d', d = d' + 1 := ⟨d - 1, by have := HC2.out.1; omega⟩
                    have hx1 := (Kd.R_celln false HOs.out (x : Int) (by omega) (by omega)).1
                    have hf1 := (Kd.R_celln false HOs.out (x : Int) (by omega) (by omega)).2
                    rw [Int.toNat_natCast] at hx1 hf1
                    have hfl : rdOf false s' (x : Int) = s'.getD x true := by
                      unfold rdOf
                      rw [Int.toNat_natCast, List.getD_eq_getElem?_getD, List.getD_eq_getElem?_getD, List.getElem?_eq_getElem (by omega)]
                      rfl
                    rw [hfl] at hx1
                    have p1 : (0 ≤ (x : Int)) = True := eq_true (by omega)
                    have q1 : ((x : Int) < (M : Int)) = True := eq_true (by omega)
                    cases hb2 : s'.getD x true with
                    | true =>
                      rw [hb2] at hx1
                      have HW2 := Aside0.mk (show s' = walkB (bandAt B) (roadAt B R) (s.count false + 1) s j by have h5 := HW.out; rw [walkB, if_pos hb2] at h5; exact h5)
                      clear hb2
                      have F1 := Aside0.mk (show j + 1 ≤ M by omega)
                      have F2 := Aside0.mk (show k1 = M + 1 - (j + 1) by have := HK.out; omega)
                      have F3 := Aside0.mk (show m + 1 ≤ j + 1 by omega)
                      have F4 := Aside0.mk (show wrap64 ((j : Int) + 1) = (j : Int) + 1 by rw [← i64_w]; exact Go.wrap_small _ (by omega) (by omega))
                      have F5 := Aside0.mk (show wrap64 ((m : Int) + 1) = (m : Int) + 1 by rw [← i64_w]; exact Go.wrap_small _ (by omega) (by omega))
                      have F6 := Aside0.mk (show cycB (bandAt B) (roadAt B R) (M - (j + 1)) (j + 1) s' (m + 1) = cycB (bandAt B) (roadAt B R) M 0 (List.replicate M false) 0 by
                        have h4 : M - j = (M - (j + 1)) + 1 := by omega
                        have h5 := HE.out
                        rw [h4, cycB, if_neg (by rw [HBJ.out]; decide), ← HW2.out] at h5
                        exact h5)
                      go_wp2
                      go_roundg k1
                      case measure => exact Nat.lt_succ_self _
                      case rel => exact ⟨s', m + 1, j + 1, (by have := F5.out; first | rfl | (simp; done) | (simp [*]; done)), (by have := F4.out; first | rfl | (simp; done) | (simp [*]; done)), F1, F2, HS2, F3, F6, HOs, HB⟩
                    | false =>
                      rw [hb2] at hx1
                      have HBX := Aside0.mk hb2
                      clear hb2 hfl
                      obtain ⟨v, hv1, hv2, hv3⟩ := HPB.out.at_ hxM
                      obtain ⟨u, hu1, hu2, hu3⟩ := HP.out.at_ hv2
                      have HV3 := Aside0.mk hv3
                      have HU3 := Aside0.mk hu3
                      clear hv3 hu3
                      cases gk with
                      | zero => exact absurd HC2.out (by omega)
                      | succ k2 =>
                      have HP1 := Kd.R_putg HOs.out (x : Int) true
                      rw [Int.toNat_natCast] at HP1
                      obtain ⟨hx2, hf2⟩ := Kd.R_celln false HP1.1 (v : Int) (by omega) (by omega)
                      have HP2 := Kd.R_putg HP1.1 (v : Int) true
                      rw [Int.toNat_natCast] at hx2 hf2 HP2
                      have HBn := Aside0.mk (below_set (j := v) (v := .bool true) (below_set (j := x) (v := .bool true) HB.out GS.out) GS.out)
                      obtain ⟨ad1, e1, hxb⟩ := Kd.at_int (Kd.C_below HCa.out HB.out) (x : Int) (by omega) (by omega)
                      obtain ⟨ad2, e2, hxc⟩ := Kd.at_int (Kd.C_below HCa.out HBn.out) (x : Int) (by omega) (by omega)
                      obtain rfl : ad1 = ad2 := by rw [e1] at e2; injection e2
                      clear e2
                      obtain ⟨ad3, e3, hxd⟩ := Kd.at_int (Kd.C_below HCb.out HBn.out) (v : Int) (by omega) (by omega)
                      subst e1
                      subst e3
                      rw [Int.toNat_natCast, hv1] at hxb hxc
                      rw [Int.toNat_natCast, hu1] at hxd
                      have p2 : (0 ≤ (v : Int)) = True := eq_true (by omega)
                      have q2 : ((v : Int) < (M : Int)) = True := eq_true (by omega)
                      have hcl := count_sets_lt s' x v HBX.out
                      have G1 := Aside0.mk (show u < M from hu2)
                      have G2 := Aside0.mk (show ((s'.set x true).set v true).count false < d ∧ ((s'.set x true).set v true).count false < k2 by have := HC2.out; omega)
                      have G3 := Aside0.mk (show ((s'.set x true).set v true).length = M by simp; exact HS2.out)
                      have G4 := Aside0.mk (show walkB (bandAt B) (roadAt B R) d ((s'.set x true).set v true) u = walkB (bandAt B) (roadAt B R) (s.count false + 1) s j by
                        have h5 := HW.out
                        have e1 : bandAt B x = v := HV3.out
                        have e2 : roadAt B R x = u := by unfold roadAt; rw [e1]; exact HU3.out
                        rw [walkB, if_neg (by rw [HBX.out]; decide), e1, e2] at h5
                        exact h5)
                      have G5 := Aside0.mk HP2.1
                      clear hcl HP2 HP1 hv1 hu1
                      go_wp2
                      go_roundg k2
                      case measure => exact Nat.lt_succ_self _
                      case rel => exact ⟨(s'.set x true).set v true, u, d, (by first | rfl | (simp; done)), G1, G2, G3, G4, G5, HBn⟩
              · have cj1 : decide ((j : Int) < (M : Int)) = false := decide_eq_false (by omega)
                have cj2 : decide (j < M) = false := decide_eq_false cj
                have hjM : j = M := by have := HJ.out; omega
                subst hjM
                have HF3 := Aside0.mk (show m = cycB (bandAt B) (roadAt B R) j 0 (List.replicate j false) 0 by have h5 := HE.out; rw [Nat.sub_self] at h5; exact h5)
                have HF4 := Aside0.mk (show circN l0 (valQ p) = m by
                  have e1 : circB l0 (valQ p) = B := by unfold circB; rw [HM.out, HN.out, ← HQ.out, ← HF2.out]
                  have e2 : circR l0 = R := by unfold circR; rw [HM.out, ← HE2.out]
                  unfold circN
                  rw [e1, e2, HM.out, ← HF3.out])
                go_wp2
                all_goals (go_ret; refine ⟨?_, below_then HBW.out HBW.out.size HB.out⟩; rw [HF4.out]; first | (show Ending.returned (Value.int .i64 1) = _; congr 2; omega) | (show Ending.returned (Value.int .i64 (m : Int)) = _; congr 2; omega))
  · rw [if_neg hok] at h
    cases h

end Go.Proofs.Ytckmncebedhgeaa.G
