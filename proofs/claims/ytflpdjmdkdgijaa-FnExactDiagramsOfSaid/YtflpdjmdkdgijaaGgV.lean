-- Written by the session's program mk.py (which runs the kit's print.py over functions and over contracts given by hand).
import Derived.Test.YtflpdjmdkdgijaaG0
import Derived.Test.YtflpdjmdkdgijaaPlainC
import Derived.Lib.LazyBuf
import Derived.Lib.LazyBuf
namespace Go.Proofs.Ytflpdjmdkdgijaa.G
open Go.RowKit Go.Maps Go.Proofs.YtflpdjmdkdgijaaW.PrintWords Go.Proofs.YtflpdjmdkdgijaaW.PrintLast Go.Proofs.YtflpdjmdkdgijaaW.PrintMore
attribute [local go_sem] max2_int min2_int max_two min_two max_three min_three max_four min_four   -- for this text's walks alone
set_option linter.unusedVariables false
set_option linter.unusedSimpArgs false

open Go.Proofs.Ytflpdjmdkdgijaa.Plain
/-! ### slices_Clone_int64_int64: function 41, by hand -/
def slices_Clone_int64_int64.f (l0 : List Int) : Option (List Int) := if l0.length < 17592186044416 then some l0 else none
theorem slices_Clone.info : (Try.prog.info? 2).map (fun i => (i.zero, i.size, i.bytes)) = some (some (.int .i64 0), 1, 8) := by kernel_rfl
set_option maxHeartbeats 1000000 in
set_option maxRecDepth 100000 in
theorem slices_Clone_int64_int64.calls (A0 : Option Addr) (c0 : Nat) (l0 : List Int) (r : List Int) (w : World) (hr0 : Kd.C (Kd.int .i64) w A0 l0.length l0) (hc0 : l0.length ≤ c0) (h : slices_Clone_int64_int64.f l0 = some r) :
    Calls Try.prog 41 #[.slice A0 l0.length c0] w fun e w' => ∃ v0_ : Value, e = .returned (v0_) ∧ Kd.R (Kd.int .i64) 2 w' w.heap.size (fun _ => True) v0_ r ∧ Below w.heap.size w w' := by
  have HR0 := Aside0.mk hr0
  have HC0 := Aside0.mk hc0
  clear hc0
  have HB := Aside0.mk (Below.refl w.heap.size w)
  unfold slices_Clone_int64_int64.f at h
  by_cases c2 : l0.length < 17592186044416
  · rw [if_pos c2] at h
    obtain rfl := Option.some.inj h
    clear h
    have LM := Aside0.mk c2
    clear c2
    have hq : ∀ (w : World) (n c : Nat), (binOp .eql 22 (.slice A0 n c) (.slice none 0 0)).run Try.prog w = .ok (.bool A0.isNone) w := fun w n c => run_eql_slice_nil w _ _ A0 n c Try.underlying22
    cases A0 with
    | none =>
      have hl : l0 = [] := by
        cases l0 with
        | nil => rfl
        | cons x l => obtain ⟨ad, e, _⟩ := hr0.2.2 (by simp); cases e
      subst hl
      clear hr0
      simp only [Option.isNone_none] at hq
      go_enter Try.func41, Try.ntmps41
      go_wp2
      go_ret
      exact ⟨_, rfl, Kd.R_nil _ _ _ _ _, HB.out⟩
    | some ad =>
      clear hr0
      simp only [Option.isNone_some] at hq
      go_enter Try.func41, Try.ntmps41
      go_wp2_with (first
        | ((with_reducible refine gate_dst (N := 5) rfl ?_); refine Kd.R_lit (Kd.int .i64) _ 2 ?hg (N := 5) ?hd (xs := ([] : List Int)) (inner := []) (ok := fun _ => True) (okp := fun _ => True) ?hr ?hp (fun _ hk => hk) trivial (Below.refl _ _) (Nat.le_refl _) (by simp) ?_; (case hd => rfl); (case hg => rfl); (case hr => first | (go_simp; done) | (go_simp; rfl)); (case hp => exact (Reps.none _ _)); intro v102 w3 ho4 hb hg_ hnew_; clear hg_ hnew_; have HO103 := Aside0.mk (Kd.R_lower ho4 (below_size HB.out)); have n1_ := Aside0.mk (below_step HB.out hb); clear HB; have HB := n1_; clear n1_; clear hb ho4)
        | ((with_reducible refine gate_builtin (b := .append) (xs := #[.tmp 5, .tmp 6]) rfl ?_); at_builtin; refine Kd.R_append_rows (Kd.int .i64) (w0 := w) w.heap.size rfl (.tmp 5) (.tmp 6) 22 2 (.int .i64 0) 8 rfl Try.underlying22 slices_Clone.info rfl (by decide) (by omega) v102 [] l0 _ _ _ (fun _ => True) (fun _ => False) rfl rfl ?aO ?aR (fun _ _ h => h) (fun _ h => h.elim) ?aF ?aB ?aS ?aL ?_; (case aR => repeat (first | exact (Kd.C_below HR0.out HB.out) | (with_reducible refine Kd.C_alloc ?_ _) | (with_reducible refine Kd.C_drewN ?_ _) | (with_reducible refine Kd.C_drew ?_))); (case aB => exact (by repeat (first | (with_reducible first | exact HB.out | apply below_alloc | apply pw_below_drewN | apply below_drew1) | exact HB.out))); (case aF => exact (fun _ _ => trivial)); (case aO => exact (by (with_reducible repeat (first | apply Kd.R_alloc | apply Kd.R_drewN | apply Kd.R_drew)); exact HO103.out)); (case aS => exact (below_size (by repeat (first | (with_reducible first | exact HB.out | apply below_alloc | apply pw_below_drewN | apply below_drew1) | exact HB.out)))); (case aL => have := LM.out; simp; omega); intro v105 w5 ho hb hg hat; have n0_ := Aside0.mk (hb); have n1_ := Aside0.mk (ho); clear HB; clear HO103; have HB := n0_; have HO106 := n1_; clear n0_ n1_; clear ho hb hg hat))
      go_ret
      exact ⟨_, rfl, by (with_reducible repeat (first | apply Kd.R_alloc | apply Kd.R_drewN | apply Kd.R_drew)); exact HO106.out, HB.out⟩
  · rw [if_neg c2] at h
    cases h

/-! ### slices_Concat_int64_int64: function 61, by hand -/
theorem slices_Concat.info : (Try.prog.info? 2).map (fun i => (i.zero, i.size, i.bytes)) = some (some (.int .i64 0), 1, 8) := by kernel_rfl
set_option maxHeartbeats 1000000 in
set_option maxRecDepth 100000 in
/-- Room for n numbers, behind nothing. -/
theorem slices_Grow.nil (n : Nat) (w : World) (hn : n ≤ 17592186044415) :
    Calls Try.prog 62 #[.slice none 0 0, .int .i64 n] w fun e w' => ∃ v0_ : Value, e = .returned (v0_) ∧ Kd.R (Kd.int .i64) 2 w' w.heap.size (fun _ => True) v0_ [] ∧ Below w.heap.size w w' := by
  by_cases hz : n = 0
  · subst hz
    go_enter Try.func62, Try.ntmps62
    go_wp2
    go_ret
    exact ⟨_, rfl, Kd.R_nil _ _ _ _ _, Below.refl _ _⟩
  · have hp : 0 < n := by omega
    go_enter Try.func62, Try.ntmps62
    go_wp2_with (first
      | ((with_reducible refine gate_builtin (b := .append) (xs := #[.tmp 20, .tmp 21]) rfl ?_); at_builtin; refine Kd.R_append_zeros (Kd.int .i64) (w0 := w) w.heap.size rfl (.tmp 20) (.tmp 21) 22 3 2 (.int .i64 0) 8 rfl Try.underlying22 Try.underlying3 slices_Concat.info rfl (by decide) (by omega) (.slice none 0 0) [] 0 (n : Int) (fun _ => True) rfl rfl rfl (fun _ _ => trivial) (Kd.R_nil _ _ _ _ _) (by omega) (Below.refl _ _) (Nat.le_refl _) (by simp; omega) ?_; intro v1 w1 ho hb hg hat; rw [Int.toNat_natCast, List.nil_append] at ho; obtain ⟨g, cap, eo, gb, gl, gc⟩ := Kd.R_form ho (by simpa using hp); subst eo; have HO := Aside0.mk ho; have HB := Aside0.mk hb; clear ho hb hg hat gc; simp only [List.length_replicate])
      | fail)
    go_ret
    have h := Kd.R_take (m := 0) HO.out (Nat.zero_le _)
    rw [List.take_zero] at h
    exact ⟨_, rfl, h, HB.out⟩
def slices_Concat_int64_int64.f (l0 : List (List Int)) : Option (List Int) := if l0.flatten.length < 17592186044416 then some l0.flatten else none
set_option maxHeartbeats 1000000 in
set_option maxRecDepth 100000 in
theorem slices_Concat_int64_int64.calls (A0 : Option Addr) (c0 : Nat) (l0 : List (List Int)) (r : List Int) (w : World) (hr0 : Kd.C (Kd.slice 2 (Kd.int .i64)) w A0 l0.length l0) (hc0 : l0.length ≤ c0) (h : slices_Concat_int64_int64.f l0 = some r) :
    Calls Try.prog 61 #[.slice A0 l0.length c0] w fun e w' => ∃ v0_ : Value, e = .returned (v0_) ∧ Kd.R (Kd.int .i64) 2 w' w.heap.size (fun _ => True) v0_ r ∧ Below w.heap.size w w' := by
  have hlen : l0.length ≤ 9223372036854775807 := hr0.2.1
  unfold slices_Concat_int64_int64.f at h
  by_cases c2 : l0.flatten.length < 17592186044416
  · rw [if_pos c2] at h
    have HR := Lib.hid (Option.some.inj h)
    clear h
    go_enter Try.func61, Try.ntmps61
    go_wp2
    go_loop [3, 11] (fun s i => ∃ k : Nat, k ≤ l0.length ∧ i = .int .i64 k ∧ s = .int .i64 (flen l0 k : Nat)) (fun _ i => l0.length - (intOf i).toNat)
    case atStart => exact ⟨0, Nat.zero_le _, rfl, by rw [flen_zero]; rfl⟩
    case round =>
      obtain ⟨k, hk, rfl, rfl⟩ := hrel
      by_cases hlt : k < l0.length
      · obtain ⟨ad, A', c', eA, hx, hle, hC⟩ := rows_at hr0 k hlt
        cases eA
        have HH := Lib.hid (flen_succ hlt)
        have h3 : flen l0 k ≤ 17592186044416 := by have := flen_le l0 k; omega
        have h4 : l0[k].length ≤ 17592186044416 := by have := flen_le l0 (k + 1); have := HH.out; omega
        have h5 : 0 ≤ (flen l0 k : Int) + (l0[k].length : Int) := by omega
        go_wp2
        go_round
        case rel => exact ⟨k + 1, by omega, by go_num, by rw [HH.out]; go_num⟩
        case measure => simp [intOf]; omega
      · have hkl : k = l0.length := by omega
        subst hkl
        have hfl : flen l0 l0.length ≤ 17592186044415 := by have := flen_all l0; omega
        go_wp2_with (go_at_call 62; refine (slices_Grow.nil _ _ hfl).mono ?_; rintro e w' ⟨v0, rfl, ho, hb⟩; have HO0 := Aside0.mk ho; have HB0 := Aside0.mk hb; clear ho hb)
        go_loopw [6, 27] (fun v i wr => ∃ k : Nat, k ≤ l0.length ∧ i = .int .i64 k ∧ Aside0 (Kd.R (Kd.int .i64) 2 wr w.heap.size (fun _ => True) v (l0.take k).flatten) ∧ Aside0 (Below w.heap.size w wr)) (fun _ i _ => l0.length - (intOf i).toNat)
        case atStart => exact ⟨0, Nat.zero_le _, rfl, ⟨by simpa using HO0.out⟩, HB0⟩
        case round =>
          obtain ⟨k, hk, rfl, HO, HB⟩ := hrel
          by_cases hlt : k < l0.length
          · obtain ⟨ad, A', c', eA, hx, hle, hC⟩ := rows_at hr0 k hlt
            cases eA
            replace hx := (HB.out.cell (World.block_lt_of_cell? w _ hx)).trans hx
            have HC := Aside0.mk hC
            have HF := Lib.hid (flatten_take hlt)
            have HL := Lib.hid (show ((l0.take k).flatten.length + l0[k].length) ≤ 17592186044416 from by have h1 := flatten_take_le l0 (k + 1); rw [flatten_take hlt, List.length_append] at h1; omega)
            clear hC
            go_wp2_with (first
              | ((with_reducible refine gate_builtin (b := .append) (xs := #[.tmp 31, .tmp 32]) rfl ?_); at_builtin; refine Kd.R_append_rows (Kd.int .i64) (w0 := w) w.heap.size rfl (.tmp 31) (.tmp 32) 22 2 (.int .i64 0) 8 rfl Try.underlying22 slices_Concat.info rfl (by decide) (by omega) u6 (l0.take k).flatten l0[k] A' l0[k].length c' (fun _ => True) (fun _ => False) rfl rfl HO.out (Kd.C_below HC.out HB.out) (fun _ _ h => h) (fun _ h => h.elim) (fun _ _ => trivial) HB.out HB.out.size (by have := HL.out; omega) ?_; intro v105 w5 ho hb hg hat; rw [← HF.out] at ho; have HO2 := Aside0.mk ho; have HB2 := Aside0.mk hb; clear ho hb hg hat)
              | fail)
            go_roundw
            case rel => exact ⟨k + 1, by omega, by go_num, HO2, HB2⟩
            case measure => simp [intOf]; omega
          · have hkl : k = l0.length := by omega
            subst hkl
            have ho := HO.out
            rw [List.take_length, HR.out] at ho
            have HO3 := Aside0.mk ho
            clear ho
            go_wp2
            go_ret
            exact ⟨_, rfl, HO3.out, HB.out⟩
  · rw [if_neg c2] at h
    cases h

end Go.Proofs.Ytflpdjmdkdgijaa.G
