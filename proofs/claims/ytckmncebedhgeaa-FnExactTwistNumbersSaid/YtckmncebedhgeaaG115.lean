-- Written by the session's program mk.py (which runs the kit's print.py over functions and over contracts given by hand).
import Derived.Test.YtckmncebedhgeaaG0
import Derived.Test.YtckmncebedhgeaaG111
import Derived.Test.YtckmncebedhgeaaG154
import Derived.Test.YtckmncebedhgeaaGgI
namespace Go.Proofs.Ytckmncebedhgeaa.G
open Go.RowKit Go.Maps Go.Proofs.YtckmncebedhgeaaW.PrintWords Go.Proofs.YtckmncebedhgeaaW.PrintLast Go.Proofs.YtckmncebedhgeaaW.PrintMore
attribute [local go_sem] max2_int min2_int max_two min_two max_three min_three max_four min_four   -- for this text's walks alone
set_option linter.unusedVariables false
set_option linter.unusedSimpArgs false

/-! ### impl_TwistNumbers_1: function 115, by hand -/
def qT (s x : Int) : Bool := (Go.bits .and .i64 (shr .i64 s x) 1 == 1)
def qS (s : Int) (x : Int) : Option Bool := if 0 ≤ x ∧ x ≤ 64 then some (qT s x) else none
set_option maxHeartbeats 8000000 in
set_option maxRecDepth 100000 in
theorem impl_twistSum_1.calls (b : Nat) (s x : Int) (r : Bool) (w : World) (hb : w.cell? ⟨b, 0, none⟩ = some (.int .i64 s)) (h : qS s x = some r) :
    Calls Try.prog 155 (#[.int .i64 x] ++ #[.pointer (some ⟨b, 0, none⟩)]) w fun e w' => e = .returned (.bool r) ∧ ∃ nd, w' = w.drewN nd := by
  show Calls Try.prog 155 #[.int .i64 x, .pointer (some ⟨b, 0, none⟩)] w _
  unfold qS at h
  by_cases c : 0 ≤ x ∧ x ≤ 64
  · rw [if_pos c] at h
    have h2 := Option.some.inj h
    have c1 : (0 ≤ x) = True := eq_true c.1
    have c2 : ¬ (x < 0) := by omega
    have H := Aside0.mk h2
    have HC := Aside0.mk c
    clear h h2 c
    obtain ⟨ji, hji⟩ : ∃ j_ : Int, shr .i64 s x = j_ := ⟨_, rfl⟩
    have hjiz : x ≤ 64 → s / 2 ^ x.toNat = ji := shr_small hji
    have hx64 : x ≤ 64 := HC.out.2
    go_enter Try.func155, Try.ntmps155
    go_wp2
    go_ret
    refine ⟨?_, 0, rfl⟩
    have h9 := H.out
    unfold qT at h9
    rw [hji] at h9
    rw [← h9]
    rfl
  · rw [if_neg c] at h; cases h
theorem impl_TwistNumbers_1_1.calls (m : Int) (w : World) : Calls Try.prog 117 #[.int .i64 m] w fun e w' => e = .returned (.int .i64 1) ∧ w' = w := by
  go_enter Try.func117, Try.ntmps117
  go_wp2
  go_ret
  exact ⟨rfl, rfl⟩
def twF (k : Nat) (l : List Int) : Nat → Nat → List Int → Option (List Int)
  | 0, _, o => some o
  | d + 1, s, o => (impl_circles.f (qS (s : Int)) k l).bind fun c => (impl_weights.f o c 1).bind fun o' => twF k l d (s + 1) o'
theorem chords_f {l : List Int} {N : Nat} (h : l.length / 2 = N) (hl : l.length ≤ 12) : impl_chords.f l = some (N : Int) := by
  unfold impl_chords.f
  have e : ((l.length : Int) / 2) = (N : Int) := by omega
  rw [e]
  congr 1
  unfold wrap64
  omega
set_option maxHeartbeats 8000000 in
set_option maxRecDepth 100000 in
theorem impl_twistSum.calls (k : Nat) (A0 : Option Addr) (c0 : Nat) (l0 : List Int) (r : List Int) (w : World) (hr0 : Kd.C (Kd.int .i64) w A0 l0.length l0) (hc0 : l0.length ≤ c0) (hl : l0.length ≤ 12)
    (h : twF k l0 (2 ^ (l0.length / 2)) 0 (List.replicate (l0.length / 2 + 2) 0) = some r) :
    Calls Try.prog 116 #[.slice A0 l0.length c0, .func (.func 117) #[] #[]] w fun e w' => ∃ v0_ : Value, e = .returned v0_ ∧ Kd.R (Kd.int .i64) 2 w' w.heap.size (fun _ => True) v0_ r ∧ Below w.heap.size w w' := by
  have hmf : ∀ (fn : Fn) (first cap : Array Value) (w : World), (Instr.makeFunc fn first cap).run Try.prog w = .ok (.func fn first cap) w := fun _ _ _ _ => rfl
  have HR0 := Aside0.mk hr0
  have HC0 := Aside0.mk hc0
  have HL := Aside0.mk hl
  clear hr0 hc0
  have HB := Aside0.mk (Below.refl w.heap.size w)
  obtain ⟨N, hN⟩ : ∃ N, l0.length / 2 = N := ⟨_, rfl⟩
  have hN6 : N ≤ 6 := by omega
  have HCH := Aside0.mk (chords_f hN hl)
  rw [hN] at h
  have HN := Aside0.mk hN
  clear hN hl
  obtain ⟨E, hE⟩ : ∃ E, 2 ^ N = E := ⟨_, rfl⟩
  rw [hE] at h
  have hE64 : E ≤ 64 := by rw [← hE]; exact Nat.pow_le_pow_right (n := 2) (by decide) hN6
  have hshl : shl .i64 1 (N : Int) = (E : Int) := by
    unfold shl
    have : N = 0 ∨ N = 1 ∨ N = 2 ∨ N = 3 ∨ N = 4 ∨ N = 5 ∨ N = 6 := by omega
    rcases this with rfl | rfl | rfl | rfl | rfl | rfl | rfl <;> subst hE <;> first | rfl | decide | (simp [wrap64]; done) | (unfold wrap64; omega)
  have hshlz := shl_small hshl
  have hwE : wrap64 (2 ^ N) = (E : Int) := by
    have : N = 0 ∨ N = 1 ∨ N = 2 ∨ N = 3 ∨ N = 4 ∨ N = 5 ∨ N = 6 := by omega
    rcases this with rfl | rfl | rfl | rfl | rfl | rfl | rfl <;> subst hE <;> first | rfl | decide | (simp [wrap64]; done) | (unfold wrap64; omega)
  have HE := Aside0.mk hE
  clear hE
  have H' := Aside0.mk h
  clear h
  go_enter Try.func116, Try.ntmps116
  go_wp2_with (first | (go_at_call 88; (with_reducible refine (impl_chords.calls _ _ l0 (N : Int) _ (Kd.C_below HR0.out HB.out) HC0.out HCH.out).mono ?_); rintro e w1 ⟨rfl, ⟨m1, rfl⟩⟩) | ((with_reducible refine gate_dst (N := 12) rfl ?_); refine Kd.R_make (Kd.int .i64) _ 2 rfl (N := 12) rfl 28 _ _ rfl ((N : Int) + 2) rfl rfl Try.underlying28 (.int .i64 0) 8 info2 rfl (by decide) (by decide) 0 (ok := fun _ => True) (okp := fun _ => True) rfl (fun _ hk => hk) trivial (by omega) (by omega) (pw_below_drewN HB.out _) (Nat.le_refl _) ?_; intro v1 w2 ho hb hg_ hnew_; have n0_ := Aside0.mk hb; have n1_ := Aside0.mk ho; clear HB; have HB := n0_; have HO := n1_; clear n0_ n1_ hb ho hg_ hnew_))
  have eN : ((N : Int) + 2).toNat = N + 2 := by omega
  have n0_ := Aside0.mk (show Kd.R (Kd.int .i64) 2 (w2.drewN m1) w.heap.size (fun _ => True) v1 (List.replicate (N + 2) 0) from by rw [← eN]; exact Kd.R_drewN HO.out m1)
  have n1_ := Aside0.mk (pw_below_drewN HB.out m1)
  clear HO HB eN
  have HO := n0_
  have HB := n1_
  clear n0_ n1_
  generalize w2.drewN m1 = w3 at HO HB ⊢
  rw [hwE]
  clear hshl hshlz hwE
  go_loopg [16] (E + 1) (fun kq v16 w' => ∃ (s : Nat) (o : List Int), v16 = .int .i64 s ∧ Aside0 (s ≤ E) ∧ Aside0 (kq = E + 1 - s) ∧ Aside0 (twF k l0 (E - s) s o = some r) ∧ Aside0 (Kd.R (Kd.int .i64) 2 w' w.heap.size (fun _ => True) v1 o) ∧ Aside0 (Below w.heap.size w w'))
  case atStart => exact ⟨0, _, (by first | rfl | (simp; done)), ⟨Nat.zero_le _⟩, ⟨rfl⟩, ⟨by rw [Nat.sub_zero]; exact H'.out⟩, HO, HB⟩
  case round =>
    clear HO HB H'
    obtain ⟨s, o, rfl, HS, HK, HA, HO, HB⟩ := hrel
    have hs := HS.out
    by_cases c : s < E
    · have c1 : decide ((s : Int) < (E : Int)) = true := decide_eq_true (by omega)
      have c2 : decide (s < E) = true := decide_eq_true c
      obtain ⟨k1, hk1⟩ : ∃ k1, gk = k1 + 1 := ⟨gk - 1, by have := HK.out; omega⟩
      subst hk1
      obtain ⟨d, hd⟩ : ∃ d, E - s = d + 1 := ⟨E - s - 1, by omega⟩
      have H := HA.out
      rw [hd] at H
      unfold twF at H
      obtain ⟨cc, hcc, H⟩ := Option.bind_eq_some_iff.mp H
      obtain ⟨o2, ho2, H⟩ := Option.bind_eq_some_iff.mp H
      have A1_ := Aside0.mk hcc
      have A2_ := Aside0.mk ho2
      have H' := Aside0.mk H
      have HD := Aside0.mk hd
      clear hcc ho2 H hd HA
      go_wp2_with (first | (go_at_call 88; (with_reducible refine (impl_chords.calls _ _ l0 (N : Int) _ (Kd.C_below HR0.out (below_alloc HB.out _)) HC0.out HCH.out).mono ?_); rintro e w1 ⟨rfl, ⟨m1, rfl⟩⟩))
      have n0_ := Aside0.mk (Kd.R_drewN (Kd.R_alloc HO.out (.cells #[.int .i64 (s : Int)] 2)) m1)
      have n1_ := Aside0.mk (pw_below_drewN (below_alloc HB.out (.cells #[.int .i64 (s : Int)] 2)) m1)
      have n2_ := Aside0.mk (show ((wr.alloc (.cells #[.int .i64 (s : Int)] 2)).drewN m1).heap[wr.heap.size]? = some (.cells #[.int .i64 (s : Int)] 2 (0, 0)) from blk_drewN (by simpa using heap_alloc_new wr _) m1)
      obtain ⟨gb, hgb⟩ : ∃ gb, wr.heap.size = gb := ⟨_, rfl⟩
      have n3_ := Aside0.mk (show w.heap.size ≤ gb from by rw [← hgb]; exact HB.out.size)
      rw [hgb] at n2_ ⊢
      clear HO HB
      have HO := n0_
      have HB := n1_
      have BK := n2_
      have GB := n3_
      clear n0_ n1_ n2_ n3_
      generalize (wr.alloc (.cells #[.int .i64 (s : Int)] 2)).drewN m1 = w4 at HO HB BK ⊢
      clear hgb
      go_loopg [7, 21] (N + 1) (fun kr v7 v21 w' => ∃ (m : Int) (j : Nat), v7 = .int .i64 m ∧ v21 = .int .i64 j ∧ Aside0 (j ≤ N) ∧ Aside0 (kr = N + 1 - j) ∧ Aside0 (Kd.R (Kd.int .i64) 2 w' w.heap.size (fun _ => True) v1 o) ∧ Aside0 (Below w.heap.size w w') ∧ Aside0 (w'.heap[gb]? = some (.cells #[.int .i64 (s : Int)] 2 (0, 0))))
      case atStart => exact ⟨0, 0, (by first | rfl | (simp; done)), (by first | rfl | (simp; done)), ⟨Nat.zero_le _⟩, ⟨rfl⟩, HO, HB, BK⟩
      case round =>
        clear HO HB BK
        obtain ⟨m, j, rfl, rfl, HJ, HKR, HO, HB, BK⟩ := hrel
        have hj := HJ.out
        by_cases cj : j < N
        · have c3 : decide ((j : Int) < (N : Int)) = true := decide_eq_true (by omega)
          have c4 : decide (j < N) = true := decide_eq_true cj
          obtain ⟨k2, hk2⟩ : ∃ k2, gk = k2 + 1 := ⟨gk - 1, by have := HKR.out; omega⟩
          subst hk2
          have hz := (blk_cell BK.out 0).trans rfl
          obtain ⟨ji, hji⟩ : ∃ j_ : Int, shr .i64 (s : Int) (j : Int) = j_ := ⟨_, rfl⟩
          have hjiz := shr_small hji
          have p0 : (0 ≤ (j : Int)) = True := eq_true (by omega)
          go_wp2
          go_roundg k2
          case measure => omega
          case rel => exact ⟨_, j + 1, rfl, (by first | rfl | (simp; done)), ⟨by omega⟩, ⟨by have := HKR.out; omega⟩, HO, HB, BK⟩
        · have c3 : decide ((j : Int) < (N : Int)) = false := decide_eq_false (by omega)
          have c4 : decide (j < N) = false := decide_eq_false cj
          go_wp2_with (first
            | (go_at_call 111; (refine (impl_circles.calls 155 Try.f155 Try.func155 (by kernel_rfl) rfl #[.pointer (some ⟨gb, 0, none⟩)] (qS (s : Int)) wr (fun x b_ W_ hW_ he_ => impl_twistSum_1.calls gb (s : Int) x b_ W_ ((hW_.cell (World.block_lt_of_cell? _ _ ((blk_cell BK.out 0).trans rfl))).trans ((blk_cell BK.out 0).trans rfl)) he_) k _ _ l0 cc _ (Below.refl _ _) (Kd.C_below HR0.out HB.out) HC0.out A1_.out).mono ?_); rintro e w5 ⟨rfl, hb⟩; have m0_ := Aside0.mk (Kd.R_below HO.out hb); have m1_ := Aside0.mk (below_step HB.out hb); clear HO HB BK; have HO := m0_; have HB := m1_; clear m0_ m1_ hb)
            | (go_at_call 117; refine (impl_TwistNumbers_1_1.calls _ _).mono ?_; rintro e w6 ⟨rfl, rfl⟩)
            | (go_at_call 154; (refine (impl_weights.calls (fun _ => True) _ o cc 1 o2 w _ HB.out HO.out A2_.out).mono ?_); rintro e w7 ⟨rfl, ho, hb, _⟩; have m0_ := Aside0.mk (Kd.R_mono ho (fun _ _ => trivial)); have m1_ := Aside0.mk hb; clear HO HB; have HO := m0_; have HB := m1_; clear m0_ m1_ ho hb))
          go_roundg k1
          case measure => omega
          case rel => exact ⟨s + 1, o2, (by first | rfl | (simp; done)), ⟨by omega⟩, ⟨by have := HK.out; omega⟩, ⟨by rw [show E - (s + 1) = d by have := HD.out; omega]; exact H'.out⟩, HO, HB⟩
    · have c1 : decide ((s : Int) < (E : Int)) = false := decide_eq_false (by omega)
      have c2 : decide (s < E) = false := decide_eq_false c
      obtain rfl : s = E := by omega
      have H := HA.out
      rw [Nat.sub_self] at H
      unfold twF at H
      obtain rfl := Option.some.inj H
      go_wp2
      go_ret
      exact ⟨_, rfl, HO.out, HB.out⟩
def impl_TwistNumbers_1.f (k : Nat) (l0 : List Int) : Option (List Int) := if l0.length ≤ 12 then twF k l0 (2 ^ (l0.length / 2)) 0 (List.replicate (l0.length / 2 + 2) 0) else none
theorem twF_mono (k : Nat) (l : List Int) : ∀ (d s : Nat) (o : List Int), LeO (twF k l d s o) (twF (k + 1) l d s o)
  | 0, _, _ => LeO.refl _
  | d + 1, s, o => by
    unfold twF
    exact LeO.bind (impl_circles.mono (fun x => LeO.refl _) _ _) fun c => LeO.bind (LeO.refl _) fun o' => twF_mono k l d (s + 1) o'
theorem impl_TwistNumbers_1.mono : ∀ a0 k, LeO (impl_TwistNumbers_1.f k a0) (impl_TwistNumbers_1.f (k + 1) a0) := by
  intro a0 k
  unfold impl_TwistNumbers_1.f
  exact LeO.ite (twF_mono _ _ _ _ _) (LeO.refl _)
set_option maxHeartbeats 8000000 in
set_option maxRecDepth 100000 in
theorem impl_TwistNumbers_1.calls (k : Nat) (A0 : Option Addr) (c0 : Nat) (l0 : List Int) (r : List Int) (w : World) (hr0 : Kd.C (Kd.int .i64) w A0 l0.length l0) (hc0 : l0.length ≤ c0) (h : impl_TwistNumbers_1.f k l0 = some r) :
    Calls Try.prog 115 #[.slice A0 l0.length c0] w fun e w' => ∃ v0_ : Value, e = .returned (v0_) ∧ Kd.R (Kd.int .i64) 2 w' w.heap.size (fun _ => True) v0_ r ∧ Below w.heap.size w w' := by
  unfold impl_TwistNumbers_1.f at h
  by_cases hl : l0.length ≤ 12
  · rw [if_pos hl] at h
    have HR0 := Aside0.mk hr0
    have HC0 := Aside0.mk hc0
    have HL := Aside0.mk hl
    have H := Aside0.mk h
    clear hr0 hc0 hl h
    go_enter Try.func115, Try.ntmps115
    go_wp2_with (first | (go_at_call 116; (refine (impl_twistSum.calls k _ _ l0 r _ HR0.out HC0.out HL.out H.out).mono ?_); rintro e w1 ⟨v1, rfl, ho, hb⟩; have HO := Aside0.mk ho; have HB := Aside0.mk hb; clear ho hb))
    go_ret
    exact ⟨_, rfl, HO.out, HB.out⟩
  · rw [if_neg hl] at h; cases h

end Go.Proofs.Ytckmncebedhgeaa.G
