-- Written by the session's program mk.py (which runs the kit's print.py over functions and over contracts given by hand).
import Derived.Test.YtaegjapbkkfpdaaG0
import Derived.Test.YtaegjapbkkfpdaaG124
import Derived.Test.YtaegjapbkkfpdaaGgI
import Derived.Test.YtaegjapbkkfpdaaPlainD
import Derived.Test.YtaegjapbkkfpdaaPlainF
import Derived.Lib.SliceRun
namespace Go.Proofs.Ytaegjapbkkfpdaa.G
open Go.RowKit Go.Maps Go.Proofs.YtaegjapbkkfpdaaW.PrintWords Go.Proofs.YtaegjapbkkfpdaaW.PrintLast Go.Proofs.YtaegjapbkkfpdaaW.PrintMore
attribute [local go_sem] max2_int min2_int max_two min_two max_three min_three max_four min_four   -- for this text's walks alone
set_option linter.unusedVariables false
set_option linter.unusedSimpArgs false

open Go.Proofs.Ytaegjapbkkfpdaa.Plain
/-! ### slices_DeleteFunc_int64_int64: function 117, by hand -/
set_option maxHeartbeats 8000000 in
set_option maxRecDepth 100000 in
theorem slices_DeleteFunc_int64_int64.calls (n : Nat) (fn : Func) (hn : Try.prog.funcs[n]? = some fn) (hnm : (fn.name == "runtime.NumGoroutine") = false) (hnb : fn.body.isSome = true) (caps : Array Value) (p : Int → Bool) (P0_ : Nat → Prop) (v0 : Value) (l0 : List Int) (w0 w : World) (hB : Below w0.heap.size w0 w) (ho0 : Kd.R (Kd.int .i64) 2 w w0.heap.size P0_ v0 l0) (hl : l0.length ≤ 1048576)
    (hp : ∀ (x : Int) (w' : World), x ∈ l0 → Below w0.heap.size w0 w' → Calls Try.prog n (#[.int .i64 x] ++ caps) w' fun e w'' => e = .returned (.bool (p x)) ∧ Below w'.heap.size w' w'') :
    Calls Try.prog 117 #[v0, .func (.func n) #[] caps] w fun e w' => ∃ v, e = .returned v ∧ Kd.R (Kd.int .i64) 2 w' w0.heap.size P0_ v (keepL p l0) ∧ Below w0.heap.size w0 w' := by
  have he : ∀ (x : Int) (W : World), Sem.run Try.prog (callFunc n (#[Value.int .i64 x] ++ caps)) W = .ok (.enter n (#[Value.int .i64 x] ++ caps)) W := fun x W => enters_ hn hnm hnb _ W
  obtain ⟨A0, c0, rfl, hc0, hC⟩ := Kd.R_reads ho0
  have hIF := slices_IndexFunc_int64_int64.calls n fn hn hnm hnb caps p A0 c0 l0 w hC hc0 hl (fun x w' hx hb => hp x w' hx (below_step hB hb))
  have HO := Aside0.mk ho0
  have HB := Aside0.mk hB
  clear hB ho0 hC
  by_cases hi : idxF p l0 0 = -1
  · have HF := Aside0.mk (idxF_none p l0 0 hi)
    rw [hi] at hIF
    clear hi hp
    go_enter Try.func117, Try.ntmps117
    go_wp2_with fail
    refine hIF.mono ?_
    clear hIF
    rintro e w1 ⟨rfl, hb⟩
    have HB1 := Aside0.mk (below_step HB.out hb)
    have HO1 := Aside0.mk (Kd.R_below HO.out hb)
    clear hb
    go_wp2
    go_ret
    exact ⟨_, rfl, by rw [keepL_all HF.out]; exact HO1.out, HB1.out⟩
  · obtain ⟨i0, h1, h2, h3, h4⟩ := idxF_some p l0 0 hi
    rw [Nat.zero_add] at h1
    have HI0 := Aside0.mk (KeepInv.start h2 h3 h4)
    rw [h1] at hIF
    clear h1 h3 h4 hi
    have hne1 : ((i0 : Int) == -1) = false := beq_eq_false_iff_ne.2 (by omega)
    obtain ⟨g, cap, e0, hg, hgl, _⟩ := Kd.R_form HO.out (by omega)
    injection e0 with ea en ec
    subst ea
    subst ec
    clear en
    have HG := Aside0.mk hg
    clear hg hgl
    go_enter Try.func117, Try.ntmps117
    go_wp2_with fail
    refine hIF.mono ?_
    clear hIF
    rintro e w1 ⟨rfl, hb⟩
    have HB1 := Aside0.mk (below_step HB.out hb)
    have HO1 := Aside0.mk (Kd.R_below HO.out hb)
    clear hb HB HO
    have HP := Aside0.mk hp
    clear hp
    have e3 : IntKind.i64.wrap ((i0 : Int) + 1) = ((i0 + 1 : Nat) : Int) := by rw [Go.wrap_small _ (by omega) (by omega)]; omega
    go_wp2
    go_loopg [5, 6, 7] (l0.length + 1) (fun kq v5 v6 v7 w' => ∃ (i j : Nat) (L : List Int), v5 = .int .i64 i ∧ v6 = .int .i64 j ∧ Aside0 (KeepInv p l0 i j L) ∧ Aside0 (l0.length + 1 ≤ kq + j) ∧ Aside0 (Kd.R (Kd.int .i64) 2 w' w0.heap.size P0_ (.slice (some ⟨g, 0, none⟩) l0.length c0) L) ∧ Aside0 (Below w0.heap.size w0 w'))
    case atStart => exact ⟨i0, i0 + 1, l0, (by first | rfl | (simp; done)), (by first | rfl | (simp; done) | (simp [e3]; done)), HI0, ⟨by clear e3; omega⟩, HO1, HB1⟩
    case round =>
      obtain ⟨i, j, L, rfl, rfl, HI, HK, HO2, HB2⟩ := hrel
      clear HB1 HO1 HI0 e3
      have hlt := HI.out.lt
      have hle := HI.out.le
      have hlen := HI.out.len
      by_cases c : j < l0.length
      · have c1 : decide ((j : Int) < (l0.length : Int)) = true := decide_eq_true (by omega)
        have c2 : decide (j < l0.length) = true := decide_eq_true c
        obtain ⟨hx, _⟩ := Kd.R_celln 0 HO2.out (j : Int) (by omega) (by omega)
        rw [Int.toNat_natCast] at hx
        have hat : rdOf 0 L (j : Int) = rd l0 (j : Int) := HI.out.at_ c
        rw [hat] at hx
        clear hat
        have hm : rd l0 (j : Int) ∈ l0 := by rw [rd_eq c]; exact List.getElem_mem c
        cases gk with
        | zero => exact absurd HK.out (by omega)
        | succ k1 =>
        have p1 : (0 ≤ (j : Int)) = True := eq_true (by omega)
        have q1 : ((j : Int) < (l0.length : Int)) = True := eq_true (by omega)
        go_wp2
        refine (HP.out _ _ hm HB2.out).mono ?_
        rintro e w2 ⟨he2, hb⟩
        have HB3 := Aside0.mk (below_step HB2.out hb)
        have HO3 := Aside0.mk (Kd.R_below HO2.out hb)
        clear hb HB2 HO2 hx
        have e4 : IntKind.i64.wrap ((j : Int) + 1) = ((j + 1 : Nat) : Int) := by rw [Go.wrap_small _ (by omega) (by omega)]; omega
        have e5 : IntKind.i64.wrap ((i : Int) + 1) = ((i + 1 : Nat) : Int) := by rw [Go.wrap_small _ (by omega) (by omega)]; omega
        cases hpx : p (rd l0 (j : Int)) with
        | true =>
          rw [hpx] at he2
          subst he2
          go_wp2
          go_roundg k1
          case measure => omega
          case rel => exact ⟨i, j + 1, L, (by first | rfl | (simp; done)), (by first | rfl | (simp; done) | (simp [e4]; done)), ⟨HI.out.skip c hpx⟩, ⟨by have := HK.out; omega⟩, HO3, HB3⟩
        | false =>
          rw [hpx] at he2
          subst he2
          obtain ⟨hx2, hf2⟩ := Kd.R_celln 0 HO3.out (i : Int) (by omega) (by omega)
          rw [Int.toNat_natCast] at hx2 hf2
          have p2 : (0 ≤ (i : Int)) = True := eq_true (by omega)
          have q2 : ((i : Int) < (l0.length : Int)) = True := eq_true (by omega)
          have HP7 := Aside0.mk (Kd.R_putg HO3.out (i : Int) (rd l0 (j : Int)))
          go_wp2
          go_roundg k1
          case measure => omega
          case rel => exact ⟨i + 1, j + 1, L.set i (rd l0 (j : Int)), (by first | rfl | (simp; done) | (simp [e5]; done)), (by first | rfl | (simp; done) | (simp [e4]; done)), ⟨HI.out.keep c hpx⟩, ⟨by have := HK.out; omega⟩, ⟨by have h7 := HP7.out.1; rw [Int.toNat_natCast] at h7; exact h7⟩, ⟨below_set HB3.out HG.out⟩⟩
      · have c1 : decide ((j : Int) < (l0.length : Int)) = false := decide_eq_false (by omega)
        have c2 : decide (j < l0.length) = false := decide_eq_false c
        have hj : j = l0.length := by omega
        subst hj
        have p2 : (0 ≤ (i : Int)) = True := eq_true (by omega)
        have hcl : ∀ ty, (Builtin.clear_ #[22] ty #[.slice (some ⟨g, i, none⟩) (l0.length - i) (c0 - i)]).run Try.prog wr = .ok (.tuple #[]) (wr.setCells g i (List.replicate (l0.length - i) (.int .i64 0))) := fun ty =>
          Lib.run_clear_slice wr _ 2 ty _ Try.underlying22 zero2 rfl rfl g i _ _ (by omega)
            (fun t ht => by rw [show (i + t : Nat) = ((i + t : Nat) : Int).toNat from rfl, (Kd.R_celln 0 HO2.out ((i + t : Nat) : Int) (by omega) (by omega)).1]; rfl)
            (fun t ht => by rw [show (i + t : Nat) = ((i + t : Nat) : Int).toNat from rfl]; exact (Kd.R_celln 0 HO2.out ((i + t : Nat) : Int) (by omega) (by omega)).2)
        have HR := Aside0.mk (R_cut HO2.out (show i ≤ L.length by omega) (List.replicate (l0.length - i) (.int .i64 0)))
        go_wp2
        go_ret
        exact ⟨_, rfl, by rw [← HI.out.end_]; exact HR.out.1, HB2.out.grown HR.out.2 HB2.out.size (fun k hk => by cases hk; exact HG.out)⟩

end Go.Proofs.Ytaegjapbkkfpdaa.G
