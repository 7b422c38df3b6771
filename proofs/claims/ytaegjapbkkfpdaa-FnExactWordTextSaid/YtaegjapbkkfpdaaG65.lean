-- Written by the session's program mk.py (which runs the kit's print.py over functions and over contracts given by hand).
import Derived.Test.YtaegjapbkkfpdaaG0
import Derived.Test.YtaegjapbkkfpdaaPlainA
namespace Go.Proofs.Ytaegjapbkkfpdaa.G
open Go.RowKit Go.Maps Go.Proofs.YtaegjapbkkfpdaaW.PrintWords Go.Proofs.YtaegjapbkkfpdaaW.PrintLast Go.Proofs.YtaegjapbkkfpdaaW.PrintMore
attribute [local go_sem] max2_int min2_int max_two min_two max_three min_three max_four min_four   -- for this text's walks alone
set_option linter.unusedVariables false
set_option linter.unusedSimpArgs false

open Go.Proofs.Ytaegjapbkkfpdaa.Plain
/-! ### impl_twice: function 65, by hand -/
def impl_twice.f (l0 : List Int) : Option Bool := if wfB l0 = true then some (twiceB l0) else none
def TwOne (l : List Int) (B : Nat) (w : World) (k : Nat) : Prop := ∃ D : DataW Unit, w.ownsMap Try.prog 2 (plainElem Try.prog 3) B k D ∧ Counts D (l.take k)

theorem law2 : Keyed Try.prog 2 := int_keyed Try.underlying2
theorem zero3 (w : World) : (zeroValue 3).run Try.prog w = .ok (.int .i64 0) w := by kernel_rfl

set_option maxHeartbeats 1000000 in
set_option maxRecDepth 100000 in
theorem impl_twice.calls (A0 : Option Addr) (c0 : Nat) (l0 : List Int) (r : Bool) (w : World) (hr0 : Kd.C (Kd.int .i64) w A0 l0.length l0) (hc0 : l0.length ≤ c0) (h : impl_twice.f l0 = some r) :
    Calls Try.prog 65 #[.slice A0 l0.length c0] w fun e w' => e = .returned (.bool r) ∧ Below w.heap.size w w' := by
  have hlen : l0.length ≤ 9223372036854775807 := hr0.2.1
  unfold impl_twice.f at h
  by_cases hwf : wfB l0 = true
  · rw [if_pos hwf] at h
    have HR := Lib.hid (Option.some.inj h)
    clear h
    have hmm := @run_makeMap Try.prog
    go_enter Try.func65, Try.ntmps65
    go_wp2
    go_loopw [11] (fun i wr => ∃ k : Nat, k ≤ l0.length ∧ i = .int .i64 k ∧ Aside0 (TwOne l0 w.heap.size wr k) ∧ Aside0 (Below w.heap.size w wr)) (fun i _ => l0.length - (intOf i).toNat)
    case atStart => exact ⟨0, Nat.zero_le _, rfl, ⟨⟨_, World.ownsMap_made _ _ _ _, Counts.none⟩⟩, ⟨(Below.refl _ _).alloc (Nat.le_refl _) _⟩⟩
    case round =>
      obtain ⟨k, hk, rfl, HT, HB⟩ := hrel
      by_cases hlt : k < l0.length
      · obtain ⟨ad, eA, hx⟩ := Kd.at_int hr0 k (by omega) (by omega)
        cases eA
        replace hx := (HB.out.cell (World.block_lt_of_cell? w _ hx)).trans hx
        rw [Int.toNat_natCast] at hx
        have hkey : keyOf Try.prog 2 (.int .i64 (rd l0 k)) = some (.int .i64 (rd l0 k)) := keyOf_int_mk Try.underlying2 (wfB_at hwf k)
        obtain ⟨D, hown, hcn⟩ := HT.out
        have HCN := Lib.hid hcn
        clear hcn
        go_wp2_with (first
          | (at_lookup; refine wpList_lookup_own_int _ rfl _ _ 69 rfl 2 3 .i64 law2 Try.underlying69 Try.underlying3 (zero3 _) w.heap.size k _ rfl hown _ _ rfl hkey ?_; intro c hat hwc)
          | (at_mapUpdate; refine wpList_mapUpdate_own _ rfl _ _ _ 69 rfl 2 3 law2 Try.underlying69 _ w.heap.size k _ rfl hown (by unfold maxLen; omega) _ _ _ rfl rfl hkey _ [] (plainElem_int Try.underlying3 (wrap64_wf _)) ?_; intro w1 hown1 hgrow1)
          | go_in)
        go_roundw
        case rel => exact ⟨k + 1, by omega, by go_num, ⟨⟨_, hown1, by rw [take_rd hlt]; exact HCN.out.step hown.isMap hat (by simp; omega)⟩⟩, ⟨HB.out.grown hgrow1 HB.out.size (fun j hj => by cases hj; exact Nat.le_refl _)⟩⟩
        case measure => simp [intOf]; omega
      · have hkl : k = l0.length := by omega
        subst hkl
        obtain ⟨D, hown, hcn⟩ := HT.out
        rw [List.take_length] at hcn
        have HCN := Lib.hid hcn
        clear hcn
        obtain ⟨wo, rfl⟩ : ∃ wo : World, wo = wr := ⟨_, rfl⟩
        go_wp2_with (first
          | (at_range; refine wpList_range_own _ rfl _ 69 rfl 2 3 law2 Try.underlying69 _ w.heap.size l0.length _ rfl hown ?_; intro w0 hrg0 hg0 hs0)
          | go_in)
        go_frame
        go_loopw [22] (fun _ wr => ∃ (left : Lit → Bool) (cnt : Nat), Aside0 (wr.ranges Try.prog 2 (plainElem Try.prog 3) w.heap.size wo.heap.size l0.length D left cnt) ∧ Aside0 (Below w.heap.size w wr) ∧ Aside0 (Passed l0 left)) (fun _ wr => wr.rangeLeft w.heap.size wo.heap.size)
        case atStart => exact ⟨_, _, ⟨hrg0⟩, ⟨HB.out.grown hg0 HB.out.size (fun j hj => by cases hj)⟩, ⟨Passed.start HCN.out⟩⟩
        case round =>
          obtain ⟨left, cnt, HRG, HB2, HP⟩ := hrel
          have hrg := HRG.out
          go_wp2_with (first
            | (at_next; refine wpList_next_ranges_ii _ rfl _ rfl 2 3 .i64 .i64 law2 Try.underlying2 Try.underlying3 w.heap.size wo.heap.size l0.length _ _ _ rfl hrg ?_ ?_)
            | go_in)
          · intro _ hl0
            have hr := HR.out
            rw [HP.out.all hl0] at hr
            subst hr
            go_wp2
            go_ret
            exact ⟨rfl, HB2.out⟩
          · intro x c w1 cnt1 hwx hwc hlx hat hrg1 hlt1 hg1 hs1 hen
            have HB3 := Aside0.mk (HB2.out.grown hg1 HB2.out.size (fun j hj => by cases hj; exact HB.out.size))
            have hcx := (HCN.out x).1
            rw [hat] at hcx
            have hxm := (HCN.out x).2
            rw [has_true_of_atKey hat] at hxm
            injection hcx with hcx
            injection hcx with _ hcx
            have hmem : x ∈ l0 := by simpa using hxm.symm
            have HX := Lib.hid hcx
            have HLX := Lib.hid hlx
            have HAT := Lib.hid hat
            have HHS := Lib.hid hs1
            clear hcx hxm hlx hat hs1
            by_cases hc2 : c = 2
            · have HC := Lib.hid hc2
              have hcn : (c != 2) = false := by simp [hc2]
              clear hc2
              go_wp2
              go_roundw
              case rel => exact ⟨_, cnt1, ⟨hrg1⟩, HB3, ⟨HP.out.step (by have := HX.out; have := HC.out; omega)⟩⟩
              case measure => rw [hrg1.left_eq, hrg.left_eq]; exact hlt1
            · have hcn : (c != 2) = true := by simp [hc2]
              have hr := HR.out
              rw [twiceB_not hmem (by have := HX.out; omega)] at hr
              subst hr
              clear hc2
              go_wp2
              go_ret
              exact ⟨rfl, HB3.out⟩
  · rw [if_neg hwf] at h
    cases h

end Go.Proofs.Ytaegjapbkkfpdaa.G
