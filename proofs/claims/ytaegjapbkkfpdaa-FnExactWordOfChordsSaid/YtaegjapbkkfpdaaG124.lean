-- Written by the session's program mk.py (which runs the kit's print.py over functions and over contracts given by hand).
import Derived.Test.YtaegjapbkkfpdaaG0
import Derived.Test.YtaegjapbkkfpdaaPlainF
namespace Go.Proofs.Ytaegjapbkkfpdaa.G
open Go.RowKit Go.Maps Go.Proofs.YtaegjapbkkfpdaaW.PrintWords Go.Proofs.YtaegjapbkkfpdaaW.PrintLast Go.Proofs.YtaegjapbkkfpdaaW.PrintMore
attribute [local go_sem] max2_int min2_int max_two min_two max_three min_three max_four min_four   -- for this text's walks alone
set_option linter.unusedVariables false
set_option linter.unusedSimpArgs false

open Go.Proofs.Ytaegjapbkkfpdaa.Plain
/-! ### slices_IndexFunc_int64_int64_124: function 124, by hand -/
set_option maxHeartbeats 8000000 in
set_option maxRecDepth 100000 in
theorem slices_IndexFunc_int64_int64.calls (n : Nat) (fn : Func) (hn : Try.prog.funcs[n]? = some fn) (hnm : (fn.name == "runtime.NumGoroutine") = false) (hnb : fn.body.isSome = true) (caps : Array Value) (p : Int → Bool) (A0 : Option Addr) (c0 : Nat) (l0 : List Int) (w : World) (hr0 : Kd.C (Kd.int .i64) w A0 l0.length l0) (hc0 : l0.length ≤ c0) (hl : l0.length ≤ 1048576)
    (hp : ∀ (x : Int) (w' : World), x ∈ l0 → Below w.heap.size w w' → Calls Try.prog n (#[.int .i64 x] ++ caps) w' fun e w'' => e = .returned (.bool (p x)) ∧ Below w'.heap.size w' w'') :
    Calls Try.prog 124 #[.slice A0 l0.length c0, .func (.func n) #[] caps] w fun e w' => e = .returned (.int .i64 (idxF p l0 0)) ∧ Below w.heap.size w w' := by
  have HR0 := Aside0.mk hr0
  have HC0 := Aside0.mk hc0
  clear hr0 hc0
  have HB := Aside0.mk (Below.refl w.heap.size w)
  have he : ∀ (x : Int) (W : World), Sem.run Try.prog (callFunc n (#[Value.int .i64 x] ++ caps)) W = .ok (.enter n (#[Value.int .i64 x] ++ caps)) W := fun x W => enters_ hn hnm hnb _ W
  go_enter Try.func124, Try.ntmps124
  go_wp2
  go_loopg [8] (l0.length + 1) (fun kq v8 w' => ∃ (j : Nat), v8 = .int .i64 j ∧ Aside0 (j ≤ l0.length) ∧ Aside0 (kq = l0.length + 1 - j) ∧ Aside0 (idxF p (l0.drop j) j = idxF p l0 0) ∧ Aside0 (Below w.heap.size w w'))
  case atStart => exact ⟨0, (by first | rfl | (simp; done)), ⟨Nat.zero_le _⟩, ⟨rfl⟩, ⟨by rw [List.drop_zero]⟩, HB⟩
  case round =>
    obtain ⟨j, rfl, HJ, HK, HE, HB1⟩ := hrel
    clear HB
    by_cases c : (j : Int) < (l0.length : Int)
    · have c1 : decide ((j : Int) < (l0.length : Int)) = true := decide_eq_true c
      have hj : j < l0.length := by omega
      obtain ⟨ad, e1, hx⟩ := Kd.at_int HR0.out (j : Int) (by omega) c
      cases e1
      rw [Int.toNat_natCast] at hx
      replace hx := (HB1.out.cell (World.block_lt_of_cell? w _ hx)).trans hx
      have p1 : (0 ≤ (j : Int)) = True := eq_true (by omega)
      have q1 := eq_true c
      have hm : rd l0 (j : Int) ∈ l0 := by
        have e : rd l0 (j : Int) = l0[j] := by unfold rd; simp [hj]
        rw [e]; exact List.getElem_mem hj
      go_wp2
      refine (hp _ _ hm HB1.out).mono ?_
      rintro e w2 ⟨he2, hb⟩
      have HB2 := Aside0.mk (below_step HB1.out hb)
      clear hb HB1
      have HE2 := Aside0.mk ((idxF_drop p l0 j hj).symm.trans HE.out)
      clear HE
      cases hpx : p (rd l0 (j : Int)) with
      | true =>
        rw [hpx] at he2
        subst he2
        go_wp2
        go_ret
        have h3 := HE2.out
        rw [if_pos hpx] at h3
        rw [← h3]
        exact ⟨rfl, HB2.out⟩
      | false =>
        rw [hpx] at he2
        subst he2
        cases gk with
        | zero => exact absurd HK.out (by omega)
        | succ k1 =>
        have e3 : IntKind.i64.wrap ((j : Int) + 1) = ((j + 1 : Nat) : Int) := by rw [Go.wrap_small _ (by omega) (by omega)]; omega
        go_wp2
        go_roundg k1
        case measure => omega
        case rel =>
          have h3 := HE2.out
          rw [if_neg (by rw [hpx]; simp)] at h3
          exact ⟨j + 1, (by first | rfl | (simp; done) | (simp [e3]; done)), ⟨by omega⟩, ⟨by have := HK.out; omega⟩, ⟨h3⟩, HB2⟩
    · have c1 : decide ((j : Int) < (l0.length : Int)) = false := decide_eq_false c
      have hj : j = l0.length := by have := HJ.out; omega
      go_wp2
      go_ret
      have h3 := HE.out
      rw [hj, List.drop_length] at h3
      rw [← h3]
      exact ⟨rfl, HB1.out⟩

end Go.Proofs.Ytaegjapbkkfpdaa.G
