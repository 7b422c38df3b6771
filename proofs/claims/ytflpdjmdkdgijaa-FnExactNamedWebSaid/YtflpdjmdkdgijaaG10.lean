-- Written by the session's program mk.py (which runs the kit's print.py over functions and over contracts given by hand).
import Derived.Test.YtflpdjmdkdgijaaG0
import Derived.Test.YtflpdjmdkdgijaaG15
import Derived.Test.YtflpdjmdkdgijaaGgM
namespace Go.Proofs.Ytflpdjmdkdgijaa.G
open Go.RowKit Go.Maps Go.Proofs.YtflpdjmdkdgijaaW.PrintWords Go.Proofs.YtflpdjmdkdgijaaW.PrintLast Go.Proofs.YtflpdjmdkdgijaaW.PrintMore
attribute [local go_sem] max2_int min2_int max_two min_two max_three min_three max_four min_four   -- for this text's walks alone
set_option linter.unusedVariables false
set_option linter.unusedSimpArgs false

/-! ### laws_markWeb: function 10, by hand -/
def laws_markWeb.f (k : Nat) (l0 : List Int) (l1 : List (List Int)) (a1 : Int) : Option (Int × List Int × List (List Int)) := (laws_markInt64S.f k l0 a1).bind fun b => (laws_markInt64SS.f k l1 b.1).bind fun d => some (d.1, b.2, d.2)
set_option maxHeartbeats 8000000 in
set_option maxRecDepth 100000 in
theorem laws_markWeb.calls (k : Nat) (P0_ P1_ : Nat → Prop) (u0_ u1_ : Value) (l0 : List Int) (l1 : List (List Int)) (a1 : Int) (r1 : Int) (r2 : List Int) (r3 : List (List Int)) (w0 w : World) (hB : Below w0.heap.size w0 w) (ho0 : Kd.R (Kd.int .i64) 2 w w0.heap.size P0_ u0_ l0) (ho1 : Kd.S (Kd.slice 2 (Kd.int .i64)) 22 w w0.heap.size P1_ u1_ l1) (hd : ∀ k_, P0_ k_ → ¬ P1_ k_) (h : laws_markWeb.f k l0 l1 a1 = some (r1, r2, r3)) :
    Calls Try.prog 10 #[.agg #[u0_, u1_], .int .i64 a1] w fun e w' => e = .returned (.int .i64 r1) ∧ Kd.R (Kd.int .i64) 2 w' w0.heap.size (fun k_ => P0_ k_ ∨ w.heap.size ≤ k_) u0_ r2 ∧ Kd.S (Kd.slice 2 (Kd.int .i64)) 22 w' w0.heap.size P1_ u1_ r3 ∧ Below w0.heap.size w0 w' ∧ Kept w w' (fun k_ => P0_ k_ ∨ P1_ k_) := by
  have huB := Try.underlying25
  unfold laws_markWeb.f at h
  obtain ⟨⟨m1, q1⟩, h1, h⟩ := Option.bind_eq_some_iff.mp h
  obtain ⟨⟨m2, q2⟩, h2, h⟩ := Option.bind_eq_some_iff.mp h
  simp only [Option.some.injEq, Prod.mk.injEq] at h
  obtain ⟨rfl, rfl, rfl⟩ := h
  have F1 := Aside0.mk h1
  have F2 := Aside0.mk h2
  clear h1 h2
  obtain ⟨A0, c0, rfl⟩ := Kd.R_slice ho0
  obtain ⟨A1, c1, rfl⟩ := Kd.S_slice ho1
  have HO0 := Aside0.mk ho0
  have HO1 := Aside0.mk ho1
  have HB := Aside0.mk hB
  clear ho0 ho1 hB
  go_enter Try.func10, Try.ntmps10
  have z0 : (w.alloc (.cells #[.slice A0 l0.length c0, .slice A1 l1.length c1] 25)).cell? ⟨w.heap.size, 0, none⟩ = some (.slice A0 l0.length c0) := (blk_cell (blk_new _ _) 0).trans rfl
  go_wp2_with fail
  obtain ⟨wa, h_⟩ : ∃ x_ : World, w.alloc (.cells #[.slice A0 l0.length c0, .slice A1 l1.length c1] 25) = x_ := ⟨_, rfl⟩
  rw [h_]
  have BW : Aside0 (Below w.heap.size w wa) := ⟨by rw [← h_]; exact below_alloc (Below.refl _ _) _⟩
  have BK : Aside0 (wa.heap[w.heap.size]? = some (.cells #[.slice A0 l0.length c0, .slice A1 l1.length c1] 25 (0, 0))) := ⟨by rw [← h_]; exact blk_new _ _⟩
  clear h_ z0
  have nlt : ∀ k_, P0_ k_ → True := fun _ _ => trivial
  have R0 := Aside0.mk (Kd.R_below HO0.out BW.out)
  have R1 := Aside0.mk (Kd.S_below HO1.out BW.out)
  have hlt0 := (Kd.R_lt HO0.out)
  have hlt1 := Kd.S_bound HO1.out
  refine (laws_markInt64S.calls k (fun k_ => some k_ = (.slice A0 l0.length c0 : Value).ownBlock) _ l0 a1 m1 q1 w0 _ (below_step HB.out BW.out) (Kd.R_tight rfl R0.out) F1.out).mono ?_
  rintro e w1 ⟨rfl, o0, hb1, hk1⟩
  have BK1 := Aside0.mk (blk_kept BK.out hk1 (fun e_ => by have := hlt0 _ e_.symm; omega))
  have S1 := Aside0.mk (Kd.S_kept R1.out hk1 (fun k_ h1_ h2_ => hd k_ (HO0.out.1 k_ h2_.symm) h1_))
  have Q0 := Aside0.mk (show Kd.R (Kd.int .i64) 2 w1 w0.heap.size (fun k_ => some k_ = (.slice A0 l0.length c0 : Value).ownBlock) (.slice A0 l0.length c0) q1 from ⟨fun k_ e_ => e_.symm, (Kd.R_tight rfl o0).2⟩)
  have HB1 := Aside0.mk hb1
  have K1 := Aside0.mk (Kept.then_ (Kept.below (Kept.refl w (fun k_ => P0_ k_ ∨ P1_ k_)) BW.out) hk1 (fun k_ e_ => .inl (.inl (HO0.out.1 k_ e_.symm))))
  have hlq := (Kd.R_reads' Q0.out).1
  clear R0 R1 o0 hb1 BK
  have z1 : w1.cell? ⟨w.heap.size, 1, none⟩ = some (.slice A1 l1.length c1) := (blk_cell BK1.out 1).trans rfl
  go_wp2_with fail
  have HS := Aside0.mk (Kd.S_mono (ok' := P1_) S1.out (fun _ h_ => h_))
  refine (laws_markInt64SS.calls k P1_ _ l1 m1 m2 q2 w0 _ HB1.out HS.out F2.out).mono ?_
  rintro e w2 ⟨rfl, o1, hb2, hk2⟩
  clear z1
  have HB2 := Aside0.mk hb2
  have K2 := Aside0.mk (Kept.then_ K1.out hk2 (fun k_ h_ => .inl (.inr h_)))
  have Q2 := Aside0.mk (Kd.R_kept Q0.out hk2 (fun k_ h1_ h2_ => hd k_ (HO0.out.1 k_ h1_.symm) h2_))
  have O1 := Aside0.mk o1
  clear o1 hb2 hk2 hk1
  go_wp2
  go_ret
  exact ⟨rfl, Kd.R_mono Q2.out (fun k_ h_ => .inl (HO0.out.1 k_ h_.symm)), O1.out, HB2.out, K2.out⟩

end Go.Proofs.Ytflpdjmdkdgijaa.G
