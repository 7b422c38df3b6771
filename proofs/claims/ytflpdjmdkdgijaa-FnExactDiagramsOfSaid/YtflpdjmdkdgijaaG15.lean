-- Written by the session's program mk.py (which runs the kit's print.py over functions and over contracts given by hand).
import Derived.Test.YtflpdjmdkdgijaaG0
import Derived.Test.YtflpdjmdkdgijaaGgM
namespace Go.Proofs.Ytflpdjmdkdgijaa.G
open Go.RowKit Go.Maps Go.Proofs.YtflpdjmdkdgijaaW.PrintWords Go.Proofs.YtflpdjmdkdgijaaW.PrintLast Go.Proofs.YtflpdjmdkdgijaaW.PrintMore
attribute [local go_sem] max2_int min2_int max_two min_two max_three min_three max_four min_four   -- for this text's walks alone
set_option linter.unusedVariables false
set_option linter.unusedSimpArgs false

/-! ### laws_markInt64SS: function 15, by hand -/
def laws_markInt64SS.l0 : Nat → List (List Int) → Int → Int → Option (Int × List (List Int))
  | 0, _, _, _ => none
  | k + 1, x0, x1, x5 => if x5 < (x0.length : Int) then (if 0 ≤ x5 then ((laws_markInt64S.f k (x0.getD x5.toNat []) x1).bind fun bt => laws_markInt64SS.l0 k (x0.set x5.toNat bt.2) bt.1 (wrap64 (x5 + 1))) else none) else some (x1, x0)
def laws_markInt64SS.f (k : Nat) (l0 : List (List Int)) (a1 : Int) : Option (Int × List (List Int)) := laws_markInt64SS.l0 k l0 a1 0
set_option maxHeartbeats 8000000 in
set_option maxRecDepth 100000 in
theorem laws_markInt64SS.calls (k : Nat) (P0_ : Nat → Prop) (u9000_ : Value) (l0 : List (List Int)) (a1 : Int) (r1 : Int) (r2 : List (List Int)) (w0 w : World) (hB : Below w0.heap.size w0 w) (ho0 : Kd.S (Kd.slice 2 (Kd.int .i64)) 22 w w0.heap.size P0_ u9000_ l0) (h : laws_markInt64SS.f k l0 a1 = some (r1, r2)) :
    Calls Try.prog 15 #[u9000_, .int .i64 a1] w fun e w' => e = .returned (.int .i64 r1) ∧ Kd.S (Kd.slice 2 (Kd.int .i64)) 22 w' w0.heap.size P0_ u9000_ r2 ∧ Below w0.heap.size w0 w' ∧ Kept w w' P0_ := by
  obtain ⟨A0, c0, rfl⟩ := Kd.S_slice ho0
  have hm := (Kd.S_reads' ho0).2.2.2.1
  have HO := Aside0.mk ho0
  have HB := Aside0.mk hB
  have HKP := Aside0.mk (Kept.refl w P0_)
  have H' := Aside0.mk (show laws_markInt64SS.l0 k l0 a1 0 = some (r1, r2) from h)
  clear ho0 hB h
  generalize hN : l0.length = N at HO hm ⊢
  have HN := Aside0.mk hN
  clear hN
  go_enter Try.func15, Try.ntmps15
  go_wp2
  go_loopg [1, 5] k (fun kq v1 v5 w' => ∃ (x0 : List (List Int)) (x1 : Int) (i : Nat), v1 = .int .i64 x1 ∧ v5 = .int .i64 i ∧ Aside0 (x0.length = N) ∧ Aside0 (i ≤ N) ∧ Aside0 (laws_markInt64SS.l0 kq x0 x1 i = some (r1, r2)) ∧ Aside0 (kq ≤ k) ∧ Aside0 (Kd.S (Kd.slice 2 (Kd.int .i64)) 22 w' w0.heap.size P0_ (.slice A0 N c0) x0) ∧ Aside0 (Kept w w' P0_) ∧ Aside0 (Below w0.heap.size w0 w'))
  case atStart => exact ⟨l0, a1, 0, (by first | rfl | (simp; done)), (by first | rfl | (simp; done)), HN, ⟨Nat.zero_le _⟩, H', ⟨Nat.le_refl _⟩, HO, HKP, HB⟩
  case round =>
    clear H' HO HKP HB HN
    obtain ⟨x0, x1, i, rfl, rfl, HN, HI, HA, HK1, HO, HKP, HB⟩ := hrel
    cases gk with
    | zero => exact absurd HA.out (by simp [laws_markInt64SS.l0])
    | succ k1 =>
      have H := HA.out
      clear HA
      simp only [laws_markInt64SS.l0] at H
      by_cases c : i < N
      · have c1 : decide ((i : Int) < (N : Int)) = true := decide_eq_true (by omega)
        have c2 : decide (i < N) = true := decide_eq_true c
        have c3 : (i : Int) < (x0.length : Int) := by have := HN.out; omega
        rw [if_pos c3, if_pos (by omega)] at H
        clear c3
        obtain ⟨bt, h1, h2⟩ := Option.bind_eq_some_iff.mp H
        rw [Int.toNat_natCast] at h1 h2
        have e1 : wrap64 ((i : Int) + 1) = ((i + 1 : Nat) : Int) := by rw [← i64_w, Go.wrap_small _ (by omega) (by omega)]; omega
        rw [e1] at h2
        have H1 := Aside0.mk h1
        have H2 := Aside0.mk h2
        clear h1 h2 H e1
        have e2 : IntKind.i64.wrap ((i : Int) + 1) = ((i + 1 : Nat) : Int) := by rw [Go.wrap_small _ (by omega) (by omega)]; omega
        obtain ⟨g, cap, e0, hg, hgl, _⟩ := Kd.S_form HO.out (by have := HN.out; omega)
        have HE0 := Aside0.mk e0
        rw [HN.out] at e0
        injection e0 with ea en ec
        subst ea
        subst ec
        clear en HE0 hg hgl
        obtain ⟨oki, cs, hcl, hM, hcc, hoki, hH⟩ := Kd.S_lend HO.out [] (i : Int) (by omega) (by omega)
        obtain ⟨v, rfl, hR⟩ := hM
        rw [Int.toNat_natCast] at hR
        have hx := hcc 0 v rfl
        have hx2 : wr.cell? ⟨g, i, none⟩ = some v := by
          have e3 : (i : Int).toNat * (Kd.slice 2 (Kd.int .i64)).sz + 0 = i := by rw [Int.toNat_natCast]; show i * 1 + 0 = i; omega
          rw [e3] at hx
          exact hx
        have HR := Aside0.mk hR
        have HH := Aside0.mk hH
        have HOK := Aside0.mk hoki
        have hv : ∃ A n c, v = .slice A n c := by obtain ⟨A, c, e⟩ := Kd.R_slice hR; exact ⟨A, _, c, e⟩
        obtain ⟨Av, nv, cv, rfl⟩ := hv
        clear hcl hcc hR hH hoki hx
        have p1 : (0 ≤ (i : Int)) = True := eq_true (by omega)
        have q1 : ((i : Int) < (N : Int)) = True := eq_true (by omega)
        go_wp2_with fail
        refine (laws_markInt64S.calls k1 oki _ _ _ bt.1 bt.2 w0 _ HB.out HR.out H1.out).mono ?_
        rintro e w2 ⟨rfl, hr2, hb2, hk2⟩
        have HB2 := Aside0.mk hb2
        have HK2 := Aside0.mk (HKP.out.then_ hk2 (fun k_ hs => .inl (HOK.out k_ hs).1))
        have HO2 := Aside0.mk (Kd.H_back (Kd.H_kept HH.out hk2 (fun k_ _ hn hs => hn hs)) (x' := bt.2) ⟨_, rfl, Kd.R_mono (Kd.R_tight rfl hr2) (fun k_ hk_ => HR.out.1 k_ hk_.symm)⟩ (fun k_ hk_ => hk_))
        clear hr2 hb2 hk2 hx2 HO HKP HB HR HH
        go_wp2
        go_roundg k1
        case measure => have := HK1.out; omega
        case rel => exact ⟨x0.set i bt.2, bt.1, i + 1, (by first | rfl | (simp; done)), (by first | rfl | (simp; done) | (simp [e2]; done)), ⟨by rw [List.length_set]; exact HN.out⟩, ⟨by omega⟩, H2, ⟨by have := HK1.out; omega⟩, ⟨by have h3 := HO2.out; rw [Int.toNat_natCast] at h3; exact h3⟩, HK2, HB2⟩
      · have c1 : decide ((i : Int) < (N : Int)) = false := decide_eq_false (by omega)
        have c2 : decide (i < N) = false := decide_eq_false c
        rw [if_neg (by have := HN.out; omega)] at H
        simp only [Option.some.injEq, Prod.mk.injEq] at H
        obtain ⟨rfl, rfl⟩ := H
        go_wp2
        go_ret
        exact ⟨rfl, HO.out, HB.out, HKP.out⟩

end Go.Proofs.Ytflpdjmdkdgijaa.G
