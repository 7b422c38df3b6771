-- Written by the session's program mk.py (which runs the kit's print.py over functions and over contracts given by hand).
import Derived.Test.YtckmncebedhgeaaG0
import Derived.Test.YtckmncebedhgeaaGgI
import Derived.Test.YtckmncebedhgeaaPlainF
namespace Go.Proofs.Ytckmncebedhgeaa.G
open Go.RowKit Go.Maps Go.Proofs.YtckmncebedhgeaaW.PrintWords Go.Proofs.YtckmncebedhgeaaW.PrintLast Go.Proofs.YtckmncebedhgeaaW.PrintMore
attribute [local go_sem] max2_int min2_int max_two min_two max_three min_three max_four min_four   -- for this text's walks alone
set_option linter.unusedVariables false
set_option linter.unusedSimpArgs false

open Go.Proofs.Ytckmncebedhgeaa.Plain
/-! ### impl_pairs: function 91, by hand -/
set_option maxHeartbeats 8000000 in
set_option maxRecDepth 100000 in
theorem impl_pairs.calls (n : Nat) (fn : Func) (hn : Try.prog.funcs[n]? = some fn) (hnm : (fn.name == "runtime.NumGoroutine") = false) (hnb : fn.body.isSome = true) (caps : Array Value) (p : Int → Int → Bool) (A0 : Option Addr) (c0 : Nat) (l0 : List Int) (w : World) (hr0 : Kd.C (Kd.int .i64) w A0 l0.length l0) (hc0 : l0.length ≤ c0) (hl : l0.length ≤ 1048576) (N : Nat) (hN0 : l0.length / 2 = N)
    (hp : ∀ (j i : Nat) (w' : World), j < i → i < N → Below w.heap.size w w' → Calls Try.prog n (#[.int .i64 j, .int .i64 i] ++ caps) w' fun e w'' => e = .returned (.bool (p j i)) ∧ Below w'.heap.size w' w'') :
    Calls Try.prog 91 #[.slice A0 l0.length c0, .func (.func n) #[] caps] w fun e w' => e = .returned (.int .i64 (outF p N 0)) ∧ Below w.heap.size w w' := by
  have HR0 := Aside0.mk hr0
  have HC0 := Aside0.mk hc0
  clear hr0 hc0
  have HB := Aside0.mk (Below.refl w.heap.size w)
  have he : ∀ (x y : Int) (W : World), Sem.run Try.prog (callFunc n (#[Value.int .i64 x, Value.int .i64 y] ++ caps)) W = .ok (.enter n (#[Value.int .i64 x, Value.int .i64 y] ++ caps)) W := fun x y W => enters_ hn hnm hnb _ W
  have HS := Aside0.mk (outF_small p N (by omega))
  have hch : impl_chords.f l0 = some (N : Int) := by
    subst hN0
    unfold impl_chords.f
    have e : wrap64 ((l0.length : Int) / 2) = ((l0.length / 2 : Nat) : Int) := by
      have e2 : (l0.length : Int) / 2 = ((l0.length / 2 : Nat) : Int) := rfl
      rw [e2, ← i64_w]; exact Go.wrap_small _ (by omega) (by omega)
    rw [e]
  go_enter Try.func91, Try.ntmps91
  go_wp2_with (first | (go_at_call 88; (with_reducible refine (impl_chords.calls _ _ l0 _ _ HR0.out HC0.out hch).mono ?_)))
  rintro e w1 ⟨rfl, ⟨nd, rfl⟩⟩
  have HB1 := Aside0.mk (show Below w.heap.size w (w.drewN nd) by repeat (first | exact HB.out | apply pw_below_drewN))
  clear HB
  have hN : N ≤ 524288 := by omega
  generalize w.drewN nd = w1 at HB1 ⊢
  have HN := Aside0.mk hN
  clear hN hch hN0
  go_wp2
  go_loopg [5, 10] (N + 1) (fun kq v5 v10 w' => ∃ (i c : Nat), v5 = .int .i64 c ∧ v10 = .int .i64 i ∧ Aside0 (i ≤ N) ∧ Aside0 (kq = N + 1 - i) ∧ Aside0 (c + outF p (N - i) i = outF p N 0) ∧ Aside0 (Below w.heap.size w w'))
  case atStart => exact ⟨0, 0, (by first | rfl | (simp; done)), (by first | rfl | (simp; done)), ⟨Nat.zero_le _⟩, ⟨rfl⟩, ⟨by rw [Nat.zero_add, Nat.sub_zero]⟩, HB1⟩
  case round =>
    obtain ⟨i, c, rfl, rfl, HJ, HK, HE, HB2⟩ := hrel
    clear HB1
    by_cases ci : (i : Int) < (N : Int)
    · have ci1 : decide ((i : Int) < (N : Int)) = true := decide_eq_true ci
      have ci2 : decide (i < N) = true := decide_eq_true (by omega)
      have HI := Aside0.mk (show i < N by omega)
      clear ci
      have HE1 := Aside0.mk (show c + (inF p i i 0 + outF p (N - (i + 1)) (i + 1)) = outF p N 0 by
        have h3 := HE.out
        have h4 : N - i = (N - (i + 1)) + 1 := by have := HI.out; omega
        rw [h4] at h3
        exact h3)
      clear HE
      cases gk with
      | zero => exact absurd HK.out (by have := HI.out; omega)
      | succ k1 =>
      go_wp2
      go_loopg [5, 14] (i + 1) (fun kr v5 v14 w' => ∃ (j d : Nat), v5 = .int .i64 d ∧ v14 = .int .i64 j ∧ Aside0 (j ≤ i) ∧ Aside0 (kr = i + 1 - j) ∧ Aside0 (d + inF p i (i - j) j = c + inF p i i 0) ∧ Aside0 (Below w.heap.size w w'))
      case atStart => exact ⟨0, c, (by first | rfl | (simp; done)), (by first | rfl | (simp; done)), ⟨Nat.zero_le _⟩, ⟨rfl⟩, ⟨by rw [Nat.sub_zero]⟩, HB2⟩
      case round =>
        obtain ⟨j, d, rfl, rfl, HJ2, HK2, HE2, HB3⟩ := hrel
        clear HB2
        by_cases cj : j < i
        · have cj1 : decide ((j : Int) < (i : Int)) = true := decide_eq_true (by omega)
          have cj2 : decide (j < i) = true := decide_eq_true cj
          have HG := Aside0.mk cj
          go_wp2
          refine (hp j i _ HG.out HI.out HB3.out).mono ?_
          rintro e w2 ⟨he2, hb⟩
          have HB4 := Aside0.mk (below_step HB3.out hb)
          clear hb HB3
          have hin : inF p i (i - j) j = (if p j i = true then 1 else 0) + inF p i (i - (j + 1)) (j + 1) := by
            have h4 : i - j = (i - (j + 1)) + 1 := by have := HG.out; omega
            rw [h4]; rfl
          have HE3 := Aside0.mk (hin ▸ HE2.out)
          clear hin HE2
          have hw1 : IntKind.i64.wrap ((j : Int) + 1) = ((j + 1 : Nat) : Int) := by rw [Go.wrap_small _ (by omega) (by have := HG.out; have := HI.out; have := HN.out; omega)]; omega
          have hw2 : IntKind.i64.wrap ((d : Int) + 1) = ((d + 1 : Nat) : Int) := by rw [Go.wrap_small _ (by omega) (by have := HE3.out; have := HE1.out; have := HS.out; omega)]; omega
          cases gk with
          | zero => exact absurd HK2.out (by have := HG.out; omega)
          | succ k2 =>
          cases hpx : p j i with
          | true =>
            rw [hpx] at he2
            subst he2
            go_wp2
            go_roundg k2
            case measure => omega
            case rel => exact ⟨j + 1, d + 1, (by first | rfl | (simp [hw2]; done)), (by first | rfl | (simp [hw1]; done)), ⟨by have := HG.out; omega⟩, ⟨by have := HK2.out; omega⟩, ⟨by have h3 := HE3.out; rw [if_pos hpx] at h3; omega⟩, HB4⟩
          | false =>
            rw [hpx] at he2
            subst he2
            go_wp2
            go_roundg k2
            case measure => omega
            case rel => exact ⟨j + 1, d, (by first | rfl | (simp [hw2]; done)), (by first | rfl | (simp [hw1]; done)), ⟨by have := HG.out; omega⟩, ⟨by have := HK2.out; omega⟩, ⟨by have h3 := HE3.out; rw [if_neg (by rw [hpx]; simp)] at h3; omega⟩, HB4⟩
        · have cj1 : decide ((j : Int) < (i : Int)) = false := decide_eq_false (by omega)
          have cj2 : decide (j < i) = false := decide_eq_false cj
          have hj : j = i := by have := HJ2.out; omega
          subst hj
          have hw1 : IntKind.i64.wrap ((j : Int) + 1) = ((j + 1 : Nat) : Int) := by rw [Go.wrap_small _ (by omega) (by have := HI.out; have := HN.out; omega)]; omega
          have HE3 := Aside0.mk (show d + outF p (N - (j + 1)) (j + 1) = outF p N 0 by
            have h3 := HE2.out
            rw [Nat.sub_self] at h3
            have h4 : d = c + inF p j j 0 := h3
            have := HE1.out
            omega)
          go_wp2
          go_roundg k1
          case measure => omega
          case rel => exact ⟨j + 1, d, (by first | rfl | (simp; done)), (by first | rfl | (simp [hw1]; done)), ⟨by have := HI.out; omega⟩, ⟨by have := HK.out; omega⟩, HE3, HB3⟩
    · have ci1 : decide ((i : Int) < (N : Int)) = false := decide_eq_false ci
      have ci2 : decide (i < N) = false := decide_eq_false (by omega)
      have hi : i = N := by have := HJ.out; omega
      go_wp2
      go_ret
      have h3 := HE.out
      rw [hi, Nat.sub_self] at h3
      have h4 : c = outF p N 0 := h3
      rw [h4]
      exact ⟨rfl, HB2.out⟩

end Go.Proofs.Ytckmncebedhgeaa.G
