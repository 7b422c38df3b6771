-- Written by the session's program mk.py (which runs the kit's print.py over functions and over contracts given by hand).
import Derived.Test.YtaegjapbkkfpdaaG0
import Derived.Test.YtaegjapbkkfpdaaG65
import Derived.Test.YtaegjapbkkfpdaaPlainA
namespace Go.Proofs.Ytaegjapbkkfpdaa.G
open Go.RowKit Go.Maps Go.Proofs.YtaegjapbkkfpdaaW.PrintWords Go.Proofs.YtaegjapbkkfpdaaW.PrintLast Go.Proofs.YtaegjapbkkfpdaaW.PrintMore
attribute [local go_sem] max2_int min2_int max_two min_two max_three min_three max_four min_four   -- for this text's walks alone
set_option linter.unusedVariables false
set_option linter.unusedSimpArgs false

open Go.Proofs.Ytaegjapbkkfpdaa.Plain
/-! ### impl_normal: function 67, by hand -/
theorem impl_normal.info : (Try.prog.info? 2).map (fun i => (i.zero, i.size, i.bytes)) = some (some (.int .i64 0), 1, 8) := by kernel_rfl
def NoOne (l : List Int) (B : Nat) (w : World) (k : Nat) : Prop := ∃ D : DataW Unit, w.ownsMap Try.prog 2 (plainElem Try.prog 2) B k D ∧ Names D (l.take k)
def impl_normal.f (l0 : List Int) : Option (List Int) := if wfB l0 = true ∧ l0.length ≤ 17592186044416 then some (normalL l0) else none
theorem zero2 (w : World) : (zeroValue 2).run Try.prog w = .ok (.int .i64 0) w := by kernel_rfl
/-- A row of numbers, in the two words. -/
theorem R_of_ints {w : World} {base : Nat} {v : Value} {xs : List Int} (h : w.ownsRow base 2 1 v xs.length (nums .i64 xs)) : Kd.R (Kd.int .i64) 2 w base (fun _ => True) v xs := Kd.R_of_own (enc := Value.int .i64) (h1 := fun _ => rfl) h (fun _ _ => trivial)

set_option maxHeartbeats 1000000 in
set_option maxRecDepth 100000 in
theorem impl_normal.calls (A0 : Option Addr) (c0 : Nat) (l0 : List Int) (r : List Int) (w : World) (hr0 : Kd.C (Kd.int .i64) w A0 l0.length l0) (hc0 : l0.length ≤ c0) (h : impl_normal.f l0 = some r) :
    Calls Try.prog 67 #[.slice A0 l0.length c0] w fun e w' => ∃ v0_ : Value, e = .returned (v0_) ∧ Kd.R (Kd.int .i64) 2 w' w.heap.size (fun _ => True) v0_ r ∧ Below w.heap.size w w' := by
  have hlen : l0.length ≤ 9223372036854775807 := hr0.2.1
  unfold impl_normal.f at h
  by_cases hwf : wfB l0 = true ∧ l0.length ≤ 17592186044416
  · rw [if_pos hwf] at h
    have HR := Lib.hid (Option.some.inj h)
    clear h
    have hmm := @run_makeMap Try.prog
    obtain ⟨i0, hi, hz0, hz1, hz2⟩ := info_parts impl_normal.info
    go_enter Try.func67, Try.ntmps67
    go_wp2
    go_loopw [4, 13] (fun v i wr => ∃ k : Nat, k ≤ l0.length ∧ i = .int .i64 k ∧ Aside0 (NoOne l0 w.heap.size wr k) ∧ Aside0 (wr.ownsRow (w.heap.size + 1) 2 1 v k (nums .i64 (normalL (l0.take k)))) ∧ Aside0 (Below w.heap.size w wr)) (fun _ i _ => l0.length - (intOf i).toNat)
    case atStart => exact ⟨0, Nat.zero_le _, rfl, ⟨⟨_, (World.ownsMap_made _ _ _ _).alloc _, Names.none⟩⟩, ⟨by simpa [nums, normalL] using own_lit (w.alloc (.map #[] 0)) (w.heap.size + 1) 2 .i64 [] (by simp) (by simp)⟩, ⟨((Below.refl _ _).alloc (Nat.le_refl _) _).alloc (by simp) _⟩⟩
    case round =>
      obtain ⟨k, hk, rfl, HT, HO, HB⟩ := hrel
      by_cases hlt : k < l0.length
      · obtain ⟨ad, eA, hx⟩ := Kd.at_int hr0 k (by omega) (by omega)
        cases eA
        replace hx := (HB.out.cell (World.block_lt_of_cell? w _ hx)).trans hx
        rw [Int.toNat_natCast] at hx
        have hkey : keyOf Try.prog 2 (.int .i64 (rd l0 k)) = some (.int .i64 (rd l0 k)) := keyOf_int_mk Try.underlying2 (wfB_at hwf.1 k)
        obtain ⟨D, hown, hcn⟩ := HT.out
        have HCN := Lib.hid hcn
        clear hcn
        have HSN := Lib.hid (normalL_snoc (l0.take k) (rd l0 k))
        have HTK := Lib.hid (take_rd hlt)
        have hnb : some w.heap.size ≠ u4.ownBlock := fun e => by have := own_base HO.out _ e.symm; omega
        have HSZ : w.heap.size + 1 ≤ wr.heap.size := hown.lt
        have HOW := HO.out
        by_cases hb : Maps.has D (.int .i64 (rd l0 k)) = true
        · go_wp2_with (first
            | (at_lookup; refine wpList_lookup_own_ok_int _ rfl _ _ 70 rfl 2 2 .i64 law2 Try.underlying70 Try.underlying2 (zero2 _) w.heap.size k _ rfl hown _ _ rfl hkey ?_; intro c hat hwc)
            | (at_builtin; (refine wpList_append_own_at _ rfl _ _ 22 rfl (w.heap.size + 1) 2 i0 (.int .i64 0) 1 8 Try.underlying22 hi hz0 hz1 hz2 rfl (by decide) _ _ _ rfl (HOW.alloc _) ⟨wr.heap.size, 0, none⟩ 1 1 [.int .i64 c] rfl rfl (cell_one_new _ _ _) (one_int c) (by unfold maxLen; omega) (by omega) (by simp; omega) ?_); intro v' w1 hown' hgrow hnil hloc)
            | go_in)
          go_roundw
          case rel =>
            have hg2 := (World.grownBy_alloc wr (.cells #[.int .i64 c] 2) u4.ownBlock).trans hgrow
            refine ⟨k + 1, by omega, by go_num, ⟨⟨D, (hown.kept hg2 hnb).mono (Nat.le_succ _), by rw [HTK.out]; exact HCN.out.old hb⟩⟩, ⟨by rw [HTK.out, HCN.out.at_old hb hat]; exact hown'⟩, ⟨HB.out.grown hg2 HB.out.size (fun j hj => by have := own_base HOW j hj; omega)⟩⟩
          case measure => simp [intOf]; omega
        · have hb' : Maps.has D (.int .i64 (rd l0 k)) = false := by simpa using hb
          clear hb
          go_wp2_with (first
            | (at_lookup; refine wpList_lookup_own_ok_int _ rfl _ _ 70 rfl 2 2 .i64 law2 Try.underlying70 Try.underlying2 (zero2 _) w.heap.size k _ rfl hown _ _ rfl hkey ?_; intro c hat hwc)
            | (at_len; refine wpList_len_own _ rfl _ 70 rfl 2 2 Try.underlying70 _ w.heap.size k D rfl hown ?_)
            | (at_mapUpdate; refine wpList_mapUpdate_own _ rfl _ _ _ 70 rfl 2 2 law2 Try.underlying70 _ w.heap.size k _ rfl hown (by unfold maxLen; omega) _ _ _ rfl rfl hkey _ [] (plainElem_int Try.underlying2 (size_wf hown hlt hlen)) ?_; intro w1 hown1 hgrow1; have HOW1 := own_other HOW hgrow1 (.inr (Ne.symm hnb)); have HSZ1 := hgrow1.size)
            | (at_builtin; (refine wpList_append_own_at _ rfl _ _ 22 rfl (w.heap.size + 1) 2 i0 (.int .i64 0) 1 8 Try.underlying22 hi hz0 hz1 hz2 rfl (by decide) _ _ _ rfl (HOW1.alloc _) ⟨w1.heap.size, 0, none⟩ 1 1 [.int .i64 (Maps.size D : Nat)] rfl rfl (cell_one_new _ _ _) (one_int _) (by unfold maxLen; omega) (by omega) (by simp; omega) ?_); intro v' w2 hown' hgrow hnil hloc)
            | go_in)
          go_roundw
          case rel =>
            have hg2 := (World.grownBy_alloc w1 (.cells #[.int .i64 (Maps.size D : Nat)] 2) u4.ownBlock).trans hgrow
            have hT := hown.tidy law2
            have HB1 := HB.out.grown hgrow1 HB.out.size (fun j hj => by cases hj; exact Nat.le_refl _)
            refine ⟨k + 1, by omega, by go_num, ⟨⟨_, hown1.kept hg2 hnb, by rw [HTK.out, HCN.out.1]; exact HCN.out.new hT hb'⟩⟩, ⟨by rw [HTK.out, HCN.out.at_new hb']; exact hown'⟩, ⟨HB1.grown hg2 HB1.size (fun j hj => by have := own_base HOW j hj; omega)⟩⟩
          case measure => simp [intOf]; omega
      · have hkl : k = l0.length := by omega
        subst hkl
        go_wp2
        go_ret
        rw [← HR.out]
        have ho := HO.out
        rw [List.take_length] at ho
        exact ⟨_, rfl, Kd.R_lower (R_of_ints (by rw [normalL_length]; exact ho)) (Nat.le_succ _), HB.out⟩
  · rw [if_neg hwf] at h
    cases h

end Go.Proofs.Ytaegjapbkkfpdaa.G
