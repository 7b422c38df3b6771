-- Written by the session's program mk.py (which runs the kit's print.py over functions and over contracts given by hand).
import Derived.Test.YtflpdjmdkdgijaaG0
import Derived.Test.YtflpdjmdkdgijaaG40
namespace Go.Proofs.Ytflpdjmdkdgijaa.G
open Go.RowKit Go.Maps Go.Proofs.YtflpdjmdkdgijaaW.PrintWords Go.Proofs.YtflpdjmdkdgijaaW.PrintLast Go.Proofs.YtflpdjmdkdgijaaW.PrintMore
attribute [local go_sem] max2_int min2_int max_two min_two max_three min_three max_four min_four   -- for this text's walks alone
set_option linter.unusedVariables false
set_option linter.unusedSimpArgs false

/-! ### impl_wordsOf: function 30, by hand -/
def wordsF (n : Nat) : List (List Int) := moreF n (2 * n) [] [] 0
theorem wordsF_le (n : Nat) (hn : n ≤ 5) : (wordsF n).length ≤ 1000 := by
  match n with
  | 0 => decide +kernel
  | 1 => decide +kernel
  | 2 => decide +kernel
  | 3 => decide +kernel
  | 4 => decide +kernel
  | 5 => decide +kernel
  | n + 6 => omega
def impl_wordsOf.f (n : Int) : Option (List (List Int)) := if 0 ≤ n ∧ n ≤ 5 then some (wordsF n.toNat) else none
set_option maxHeartbeats 4000000 in
set_option maxRecDepth 100000 in
theorem impl_wordsOf.calls (a0 : Int) (r : List (List Int)) (w : World) (h : impl_wordsOf.f a0 = some r) :
    Calls Try.prog 30 #[.int .i64 a0] w fun e w' => ∃ v0_ : Value, e = .returned (v0_) ∧ Kd.S (Kd.slice 2 (Kd.int .i64)) 22 w' w.heap.size (fun _ => True) v0_ r ∧ Below w.heap.size w w' := by
  unfold impl_wordsOf.f at h
  by_cases hc : 0 ≤ a0 ∧ a0 ≤ 5
  · rw [if_pos hc] at h
    obtain rfl := Option.some.inj h
    obtain ⟨n, rfl⟩ : ∃ n : Nat, a0 = (n : Int) := ⟨a0.toNat, by omega⟩
    have HN : Aside0 (n ≤ 5) := ⟨by omega⟩
    rw [Int.toNat_natCast]
    clear h hc
    have he : ∀ (vs : Array Value) (W : World), Sem.run Try.prog (callFunc 40 vs) W = .ok (.enter 40 vs) W := fun vs W => enters_ Try.func40 (by kernel_rfl) rfl vs W
    have hsf : ∀ (ad : Addr) (fn : Fn) (b c : Array Value) (m : Mode) (W : World), (store ad (.func fn b c) m).run Try.prog W = stored Try.prog W ad (.func fn b c) m := fun ad fn b c m W => run_store Try.prog W ad (.func fn b c) m rfl
    go_enter Try.func30, Try.ntmps30
    go_wp2_with (first
      | ((with_reducible refine gate_dst (N := 5) rfl ?_); refine Kd.S_lit (Kd.slice 2 (Kd.int .i64)) w.heap.size 22 ?hg (N := 5) ?hd (xs := ([] : List (List Int))) (inner := []) (ok := fun _ => True) (okp := fun _ => True) ?hr ?hp (fun _ hk => hk) trivial (below_alloc (Below.refl w.heap.size w) _) ?hs (by simp) ?_; (case hd => rfl); (case hg => rfl); (case hr => first | (go_simp; done) | (go_simp; rfl)); (case hp => exact Reps.none _ _); (case hs => simp); intro v2 w2 hs2 hb2 hg2 _; have S2 := Aside0.mk hs2; have B2 := Aside0.mk hb2; have G2 := Aside0.mk hg2; clear hs2 hb2 hg2; obtain ⟨A2, c2, e2⟩ := Kd.S_slice S2.out; subst e2; have hk4 := blk_new (w2.alloc (.cells #[.slice A2 0 c2] 23)) (.cells #[Value.nilFunc] 54); rw [show (w2.alloc (.cells #[.slice A2 0 c2] 23)).heap.size = w2.heap.size + 1 from by simp] at hk4; have hcm : ((w2.alloc (.cells #[.slice A2 0 c2] 23)).alloc (.cells #[Value.nilFunc] 54)).cell? ⟨w2.heap.size + 1, 0, none⟩ = some Value.nilFunc := (blk_cell hk4 0).trans rfl; have hfm := blk_frozen hk4 0; have K4 := Aside0.mk hk4; clear hk4))
    have kn2 : w2.heap[w.heap.size]? = some (.cells #[.int .i64 n] 3 (0, 0)) := (G2.out.block _ (by simp) (by simp)).trans (blk_new _ _)
    have hO : Out ((w2.alloc (.cells #[.slice A2 0 c2] 23)).alloc (.cells #[.func (.func 40) #[] (capsM w.heap.size w2.heap.size (w2.heap.size + 1))] 54)) w.heap.size n w.heap.size w2.heap.size (w2.heap.size + 1) [] A2 c2 :=
      ⟨blk_alloc (blk_alloc kn2 _) _, by have h := blk_new (w2.alloc (.cells #[.slice A2 0 c2] 23)) (.cells #[.func (.func 40) #[] (capsM w.heap.size w2.heap.size (w2.heap.size + 1))] 54); rw [show (w2.alloc (.cells #[.slice A2 0 c2] 23)).heap.size = w2.heap.size + 1 from by simp] at h; exact h, blk_alloc (blk_new w2 _) _, Kd.S_alloc (Kd.S_alloc S2.out _) _, B2.out.size⟩
    have hB4 : Below w.heap.size w ((w2.alloc (.cells #[.slice A2 0 c2] 23)).alloc (.cells #[.func (.func 40) #[] (capsM w.heap.size w2.heap.size (w2.heap.size + 1))] 54)) := below_alloc (below_alloc B2.out _) _
    have hcall := impl_wordsOf_1.calls n w.heap.size w.heap.size w2.heap.size (w2.heap.size + 1) HN.out (2 * n) [] [] 0 [] (.slice none 0 0) (.slice none 0 0) A2 c2 _ (by simp) (by simp) (by omega) (by have h := wordsF_le n HN.out; unfold wordsF at h; simp only [List.length_nil]; omega) hO (Kd.R_nil _ _ _ _ _) (Kd.R_nil _ _ _ _ _)
    have HC := Aside0.mk hcall
    have HB4 := Aside0.mk hB4
    clear hcall hO hB4 kn2 K4 S2 B2 G2 hcm hfm
    refine Calls.mono (show Calls Try.prog 40 #[.slice none 0 0, .slice none 0 0, .int .i64 0, .pointer (some ⟨w.heap.size, 0, none⟩), .pointer (some ⟨w2.heap.size, 0, none⟩), .pointer (some ⟨w2.heap.size + 1, 0, none⟩)] _ _ from HC.out) ?_
    clear HC
    rintro e w5 ⟨rfl, A5, c5, hO5, hk5⟩
    have hs5 : w5.cell? ⟨w2.heap.size, 0, none⟩ = some (.slice A5 (([] : List (List Int)) ++ moreF n (2 * n) [] [] 0).length c5) := (blk_cell hO5.ko 0).trans rfl
    rw [List.nil_append] at hs5
    have O5 := Aside0.mk hO5
    have B5 : Aside0 (Below w.heap.size w w5) := ⟨hk5.os.trans HB4.out.os, hk5.tape.trans HB4.out.tape, hk5.output.trans HB4.out.output, Nat.le_trans HB4.out.size hk5.size, fun k hk => (hk5.block k (Nat.lt_of_lt_of_le hk HB4.out.size) (.inl hk)).trans (HB4.out.block k hk)⟩
    clear hO5 hk5 HB4
    go_wp2
    go_ret
    exact ⟨_, rfl, by have h := O5.out.hs; rw [List.nil_append] at h; exact h, B5.out⟩
  · rw [if_neg hc] at h
    cases h

end Go.Proofs.Ytflpdjmdkdgijaa.G
