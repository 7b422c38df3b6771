-- Written by the session's program mk.py (which runs the kit's print.py over functions and over contracts given by hand).
import Derived.Test.YtflpdjmdkdgijaaG0
import Derived.Test.YtflpdjmdkdgijaaGgI
import Derived.Test.YtflpdjmdkdgijaaPlainD
import Derived.Test.YtflpdjmdkdgijaaPlainZ
import Derived.Lib.SliceRun
import Derived.Deep.RegionLaw
import Derived.Shelf.RegionOpenPlain
namespace Go.Proofs.Ytflpdjmdkdgijaa.G
open Go.RowKit Go.Maps Go.Proofs.YtflpdjmdkdgijaaW.PrintWords Go.Proofs.YtflpdjmdkdgijaaW.PrintLast Go.Proofs.YtflpdjmdkdgijaaW.PrintMore
attribute [local go_sem] max2_int min2_int max_two min_two max_three min_three max_four min_four   -- for this text's walks alone
set_option linter.unusedVariables false
set_option linter.unusedSimpArgs false

open Go.Proofs.Ytflpdjmdkdgijaa.Plain
/-! ### slices_Delete_int64_int64: function 43, by hand -/
theorem slices_Delete.info : ∃ i, Try.prog.info? 2 = some i ∧ i.size = 1 := by
  have h : (Try.prog.info? 2).map (fun i => i.size) = some 1 := by kernel_rfl
  cases e : Try.prog.info? 2 with
  | none => rw [e] at h; cases h
  | some i => rw [e] at h; exact ⟨i, rfl, Option.some.inj h⟩
set_option maxHeartbeats 4000000 in
set_option maxRecDepth 1000000 in
theorem slices_Delete_int64_int64.calls (g cap k j base : Nat) (ok : Nat → Prop) (l : List Int) (w : World) (ho : Kd.R (Kd.int .i64) 2 w base ok (.slice (some ⟨g, 0, none⟩) l.length cap) l) (hk : k < l.length) (hj : j = k + 1) (hl : l.length ≤ 1048576) :
    Calls Try.prog 43 #[.slice (some ⟨g, 0, none⟩) l.length cap, .int .i64 k, .int .i64 j] w fun e w' => e = .returned (.slice (some ⟨g, 0, none⟩) (l.length - 1) cap) ∧ Kd.R (Kd.int .i64) 2 w' base ok (.slice (some ⟨g, 0, none⟩) (l.length - 1) cap) (l.eraseIdx k) ∧ w.grownBy w' (some g) := by
  obtain ⟨i0, hi0, hz1⟩ := slices_Delete.info
  have t22 := Try.underlying22
  have hcap : l.length ≤ cap := (Kd.R_reads' ho).2.1
  obtain ⟨g2, cap2, e2, _, _, _⟩ := Kd.R_form ho (by omega)
  have HC := Aside0.mk ho
  have hown := Kd.own_of_R ho
  have hcm : cap ≤ maxLen := by
    rcases hown.2 with ⟨e, _⟩ | ⟨g3, cap3, cur, e, _, _, _, h5, _⟩
    · cases e
    · injection e with _ _ e; omega
  have hmx : cap ≤ 9223372036854775807 := by unfold maxLen at hcm; omega
  clear e2 hown hcm
  obtain ⟨news, hnews⟩ : ∃ news, news = (l.drop j).map (Value.int .i64) := ⟨_, rfl⟩
  have hlen : news.length = l.length - j := by rw [hnews]; simp
  have hget : ∀ t, t < l.length - j → w.drew.cell? ⟨g, 0 + (j + t), none⟩ = news[t]? := by
    intro t ht
    have h1 := (Kd.R_celln 0 ho ((j + t : Nat) : Int) (by omega) (by omega)).1
    rw [Int.toNat_natCast] at h1
    rw [Nat.zero_add]
    show w.cell? _ = _
    rw [h1, hnews, List.getElem?_map, List.getElem?_drop, List.getElem?_eq_getElem (by omega)]
    unfold rdOf
    rw [Int.toNat_natCast, List.getD_eq_getElem?_getD, List.getElem?_eq_getElem (by omega)]
    rfl
  obtain ⟨A, hA, hsrc⟩ : ∃ A : Addr, (if cap = j then some (⟨g, 0, none⟩ : Addr) else some ⟨g, j, none⟩) = some A ∧ Aside0 (∀ t u, news[t]? = some u → w.drew.cell? (A.add t) = some u) := by
    by_cases h : cap = j
    · refine ⟨⟨g, 0, none⟩, by simp [h], ⟨fun t u hu => ?_⟩⟩
      have h0 : news.length = 0 := by rw [hlen]; omega
      rw [List.length_eq_zero_iff.1 h0] at hu
      simp at hu
    · refine ⟨⟨g, j, none⟩, by simp [h], ⟨fun t u hu => ?_⟩⟩
      have ht : t < l.length - j := by
        have := (List.getElem?_eq_some_iff.1 hu).1
        rwa [hlen] at this
      rw [← hu, ← hget t ht, Nat.zero_add, Addr.add_lit]
  have s1 : Aside0 (news.length = (l.length - j) * 1) := ⟨by rw [Nat.mul_one]; exact hlen⟩
  have s2 : Aside0 (∀ u ∈ news, u.oneCell' = true) := ⟨by
    intro u hu
    rw [hnews] at hu
    obtain ⟨x, _, rfl⟩ := List.mem_map.1 hu
    rfl⟩
  have s3 : Aside0 (∀ t, t < news.length → (w.drew.cell? ⟨g, 0 + k * 1 + t, none⟩).isSome = true ∧ w.drew.frozen? ⟨g, 0 + k * 1 + t, none⟩ = false) := ⟨by
    intro t ht
    rw [hlen] at ht
    have h1 := Kd.R_celln 0 ho ((k + t : Nat) : Int) (by omega) (by omega)
    rw [Int.toNat_natCast] at h1
    rw [Nat.mul_one, Nat.zero_add]
    exact ⟨by show (w.cell? _).isSome = true; rw [h1.1]; rfl, h1.2⟩⟩
  obtain ⟨W1, hW1⟩ : ∃ W1, W1 = w.drew.setCells g (0 + k * 1) news := ⟨_, rfl⟩
  have hR1 := R_over (o := k) (Kd.R_drew ho) (l.drop j)
  rw [← hnews, show w.drew.setCells g k news = W1 by rw [hW1, Nat.mul_one, Nat.zero_add]] at hR1
  have hcl : ∀ ty, (Builtin.clear_ #[22] ty #[.slice (some ⟨g, k + (l.length - j), none⟩) (l.length - (k + (l.length - j))) (cap - (k + (l.length - j)))]).run Try.prog W1 = .ok (.tuple #[]) (W1.setCells g (k + (l.length - j)) (List.replicate (l.length - (k + (l.length - j))) (.int .i64 0))) := fun ty =>
    Lib.run_clear_slice W1 _ 2 ty _ t22 zero2 rfl rfl g (k + (l.length - j)) _ _ (by omega)
      (fun t ht => by rw [show (k + (l.length - j) + t : Nat) = ((k + (l.length - j) + t : Nat) : Int).toNat from rfl, (Kd.R_celln 0 hR1.1 ((k + (l.length - j) + t : Nat) : Int) (by omega) (by omega)).1]; rfl)
      (fun t ht => by rw [show (k + (l.length - j) + t : Nat) = ((k + (l.length - j) + t : Nat) : Int).toNat from rfl]; exact (Kd.R_celln 0 hR1.1 ((k + (l.length - j) + t : Nat) : Int) (by omega) (by omega)).2)
  have X := Aside0.mk hR1
  have hW : Aside0 (W1 = w.drew.setCells g (0 + k * 1) news) := ⟨hW1⟩
  clear hW1 hR1 hget hnews hlen ho HC
  have e1 : ((k : Int) == (j : Int)) = false := beq_eq_false_iff_ne.2 (by omega)
  have hic : k ≤ cap := by omega
  have hjc : j ≤ cap := by omega
  have hij : k ≤ j := by omega
  have hjl : j ≤ l.length := by omega
  have mixed : Try.prog.follows Departure.mixedOrders = true := by kernel_rfl
  have HJ := Aside0.mk hj
  have hkj : k < j := by omega
  have hle : k + (l.length - j) ≤ l.length := by omega
  have hle2 : k + (l.length - j) ≤ cap := by omega
  have hlt : ¬ (l.length - (k + (l.length - j)) = 0) := by omega
  clear hj
  go_enter Try.func43, Try.ntmps43
  go_wp2_with fail
  go_region_law_o (refine step_append_room rfl (.tmp 22) (.tmp 25) 22 rfl 2 i0 1 t22 hi0 hz1 g 0 k cap (by simp [Act.eval, Act.put]) A (l.length - j) (cap - j) news (by simp [Act.eval, Act.put]) s1.out hsrc.out s2.out (by omega) s3.out ?_; rw [← hW.out])
  go_wp2
  go_ret
  have hq : k + (l.length - j) = l.length - 1 := by have := HJ.out; omega
  have hC := R_cut X.out.1 (i := k + (l.length - j)) (by rw [overL_length]; omega) (List.replicate (l.length - (k + (l.length - j))) (.int .i64 0))
  refine ⟨by rw [← hq]; rfl, ?_, ?_⟩
  · rw [← overL_drop l k hk, ← hq, ← HJ.out]
    exact hC.1
  · have h1 := X.out.2
    have h2 : w.grownBy W1 (some g) := ⟨h1.os, h1.tape, h1.output, h1.size, h1.block⟩
    exact h2.trans hC.2

end Go.Proofs.Ytflpdjmdkdgijaa.G
