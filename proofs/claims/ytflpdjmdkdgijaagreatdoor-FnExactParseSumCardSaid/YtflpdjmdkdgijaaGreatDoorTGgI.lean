-- Written by the session's program mk.py (which runs the kit's print.py over functions and over contracts given by hand).
import Derived.Test.YtflpdjmdkdgijaaGreatDoorTG0
import Derived.Test.YtflpdjmdkdgijaaGreatDoorTGgJ
import Derived.Test.YtflpdjmdkdgijaaGreatDoorTPlainA
namespace Go.Proofs.YtflpdjmdkdgijaaGreatDoor.G
open Go.RowKit Go.Maps Go.Proofs.YtflpdjmdkdgijaaGreatDoorW.PrintWords Go.Proofs.YtflpdjmdkdgijaaGreatDoorW.PrintLast Go.Proofs.YtflpdjmdkdgijaaGreatDoorW.PrintMore
attribute [local go_sem] max2_int min2_int max_two min_two max_three min_three max_four min_four   -- for this text's walks alone
set_option linter.unusedVariables false
set_option linter.unusedSimpArgs false

open Go.Proofs.YtflpdjmdkdgijaaGreatDoor.Plain
/-! ### impl_twice: function 53, by hand -/
def impl_twice.f (l0 : List Int) : Option Bool := if wfB l0 = true then some (twiceB l0) else none
def TwOne (l : List Int) (B : Nat) (w : World) (k : Nat) : Prop := ∃ D : DataW Unit, w.ownsMap Tryz.prog 2 (plainElem Tryz.prog 3) B k D ∧ Counts D (l.take k)

theorem law2 : Keyed Tryz.prog 2 := int_keyed Tryz.underlying2
theorem zero3 (w : World) : (zeroValue 3).run Tryz.prog w = .ok (.int .i64 0) w := by kernel_rfl

set_option maxHeartbeats 1000000 in
set_option maxRecDepth 100000 in
theorem impl_twice.calls (A0 : Option Addr) (c0 : Nat) (l0 : List Int) (r : Bool) (w : World) (hr0 : Kd.C (Kd.int .i64) w A0 l0.length l0) (hc0 : l0.length ≤ c0) (h : impl_twice.f l0 = some r) :
    Calls Tryz.prog 53 #[.slice A0 l0.length c0] w fun e w' => e = .returned (.bool r) ∧ Below w.heap.size w w' := by
  have hlen : l0.length ≤ 9223372036854775807 := hr0.2.1
  unfold impl_twice.f at h
  by_cases hwf : wfB l0 = true
  · rw [if_pos hwf] at h
    have HR := Lib.hid (Option.some.inj h)
    clear h
    have hmm := @run_makeMap Tryz.prog
    go_enter Tryz.func53, Tryz.ntmps53
    go_wp2
    go_loopw [11] (fun i wr => ∃ k : Nat, k ≤ l0.length ∧ i = .int .i64 k ∧ Aside0 (TwOne l0 w.heap.size wr k) ∧ Aside0 (Below w.heap.size w wr)) (fun i _ => l0.length - (intOf i).toNat)
    case atStart => exact ⟨0, Nat.zero_le _, rfl, ⟨⟨_, World.ownsMap_made _ _ _ _, Counts.none⟩⟩, ⟨(Below.refl _ _).alloc (Nat.le_refl _) _⟩⟩
    case round =>
      obtain ⟨k, hk, rfl, HT, HB⟩ := hrel
      by_cases hlt : k < l0.length
      · obtain ⟨ad, eA, hx⟩ := Kd.at_int hr0 k (by omega) (by omega)
        cases eA
        replace hx := (HB.out.cell (World.block_lt_of_cell? w _ hx)).trans hx
        rw [Int.toNat_natCast] at hx
        have hkey : keyOf Tryz.prog 2 (.int .i64 (rd l0 k)) = some (.int .i64 (rd l0 k)) := keyOf_int_mk Tryz.underlying2 (wfB_at hwf k)
        obtain ⟨D, hown, hcn⟩ := HT.out
        have HCN := Lib.hid hcn
        clear hcn
        go_wp2_with (first
          | (at_lookup; refine wpList_lookup_own_int _ rfl _ _ 100 rfl 2 3 .i64 law2 Tryz.underlying100 Tryz.underlying3 (zero3 _) w.heap.size k _ rfl hown _ _ rfl hkey ?_; intro c hat hwc)
          | (at_mapUpdate; refine wpList_mapUpdate_own _ rfl _ _ _ 100 rfl 2 3 law2 Tryz.underlying100 _ w.heap.size k _ rfl hown (by unfold maxLen; omega) _ _ _ rfl rfl hkey _ [] (plainElem_int Tryz.underlying3 (wrap64_wf _)) ?_; intro w1 hown1 hgrow1)
          | go_in)
        go_roundw
        case rel => exact ⟨k + 1, by omega, by go_num, ⟨⟨_, hown1, by rw [take_rd hlt]; exact HCN.out.step hown.isMap hat (by simp; omega)⟩⟩, ⟨HB.out.grown hgrow1 HB.out.size (fun j hj => by cases hj; exact Nat.le_refl _)⟩⟩
        case measure => simp [intOf]; omega
      · have hkl : k = l0.length := by omega
        subst hkl
        obtain ⟨D, hown, hcn⟩ := HT.out
        rw [List.take_length] at hcn
        have HCN := Lib.hid hcn
        clear hcn
        obtain ⟨wo, rfl⟩ : ∃ wo : World, wo = wr := ⟨_, rfl⟩
        go_wp2_with (first
          | (at_range; refine wpList_range_own _ rfl _ 100 rfl 2 3 law2 Tryz.underlying100 _ w.heap.size l0.length _ rfl hown ?_; intro w0 hrg0 hg0 hs0)
          | go_in)
        go_frame
        go_loopw [22] (fun _ wr => ∃ (left : Lit → Bool) (cnt : Nat), Aside0 (wr.ranges Tryz.prog 2 (plainElem Tryz.prog 3) w.heap.size wo.heap.size l0.length D left cnt) ∧ Aside0 (Below w.heap.size w wr) ∧ Aside0 (Passed l0 left)) (fun _ wr => wr.rangeLeft w.heap.size wo.heap.size)
        case atStart => exact ⟨_, _, ⟨hrg0⟩, ⟨HB.out.grown hg0 HB.out.size (fun j hj => by cases hj)⟩, ⟨Passed.start HCN.out⟩⟩
        case round =>
          obtain ⟨left, cnt, HRG, HB2, HP⟩ := hrel
          have hrg := HRG.out
          go_wp2_with (first
            | (at_next; refine wpList_next_ranges_ii _ rfl _ rfl 2 3 .i64 .i64 law2 Tryz.underlying2 Tryz.underlying3 w.heap.size wo.heap.size l0.length _ _ _ rfl hrg ?_ ?_)
            | go_in)
          · intro _ hl0
            have hr := HR.out
            rw [HP.out.all hl0] at hr
            subst hr
            go_wp2
            go_ret
            exact ⟨rfl, HB2.out⟩
          · intro x c w1 cnt1 hwx hwc hlx hat hrg1 hlt1 hg1 hs1 hen
            have HB3 := Aside0.mk (HB2.out.grown hg1 HB2.out.size (fun j hj => by cases hj; exact HB.out.size))
            have hcx := (HCN.out x).1
            rw [hat] at hcx
            have hxm := (HCN.out x).2
            rw [has_true_of_atKey hat] at hxm
            injection hcx with hcx
            injection hcx with _ hcx
            have hmem : x ∈ l0 := by simpa using hxm.symm
            have HX := Lib.hid hcx
            have HLX := Lib.hid hlx
            have HAT := Lib.hid hat
            have HHS := Lib.hid hs1
            clear hcx hxm hlx hat hs1
            by_cases hc2 : c = 2
            · have HC := Lib.hid hc2
              have hcn : (c != 2) = false := by simp [hc2]
              clear hc2
              go_wp2
              go_roundw
              case rel => exact ⟨_, cnt1, ⟨hrg1⟩, HB3, ⟨HP.out.step (by have := HX.out; have := HC.out; omega)⟩⟩
              case measure => rw [hrg1.left_eq, hrg.left_eq]; exact hlt1
            · have hcn : (c != 2) = true := by simp [hc2]
              have hr := HR.out
              rw [twiceB_not hmem (by have := HX.out; omega)] at hr
              subst hr
              clear hc2
              go_wp2
              go_ret
              exact ⟨rfl, HB3.out⟩
  · rw [if_neg hwf] at h
    cases h

/-! ### impl_normal: function 55, by hand -/
theorem impl_normal.info : (Tryz.prog.info? 2).map (fun i => (i.zero, i.size, i.bytes)) = some (some (.int .i64 0), 1, 8) := by kernel_rfl
def NoOne (l : List Int) (B : Nat) (w : World) (k : Nat) : Prop := ∃ D : DataW Unit, w.ownsMap Tryz.prog 2 (plainElem Tryz.prog 2) B k D ∧ Names D (l.take k)
def impl_normal.f (l0 : List Int) : Option (List Int) := if wfB l0 = true ∧ l0.length ≤ 17592186044416 then some (normalL l0) else none
theorem zero2 (w : World) : (zeroValue 2).run Tryz.prog w = .ok (.int .i64 0) w := by kernel_rfl
/-- A row of numbers, in the two words. -/
theorem R_of_ints {w : World} {base : Nat} {v : Value} {xs : List Int} (h : w.ownsRow base 2 1 v xs.length (nums .i64 xs)) : Kd.R (Kd.int .i64) 2 w base (fun _ => True) v xs := Kd.R_of_own (enc := Value.int .i64) (h1 := fun _ => rfl) h (fun _ _ => trivial)

set_option maxHeartbeats 1000000 in
set_option maxRecDepth 100000 in
theorem impl_normal.calls (A0 : Option Addr) (c0 : Nat) (l0 : List Int) (r : List Int) (w : World) (hr0 : Kd.C (Kd.int .i64) w A0 l0.length l0) (hc0 : l0.length ≤ c0) (h : impl_normal.f l0 = some r) :
    Calls Tryz.prog 55 #[.slice A0 l0.length c0] w fun e w' => ∃ v0_ : Value, e = .returned (v0_) ∧ Kd.R (Kd.int .i64) 2 w' w.heap.size (fun _ => True) v0_ r ∧ Below w.heap.size w w' := by
  have hlen : l0.length ≤ 9223372036854775807 := hr0.2.1
  unfold impl_normal.f at h
  by_cases hwf : wfB l0 = true ∧ l0.length ≤ 17592186044416
  · rw [if_pos hwf] at h
    have HR := Lib.hid (Option.some.inj h)
    clear h
    have hmm := @run_makeMap Tryz.prog
    obtain ⟨i0, hi, hz0, hz1, hz2⟩ := info_parts impl_normal.info
    go_enter Tryz.func55, Tryz.ntmps55
    go_wp2
    go_loopw [4, 13] (fun v i wr => ∃ k : Nat, k ≤ l0.length ∧ i = .int .i64 k ∧ Aside0 (NoOne l0 w.heap.size wr k) ∧ Aside0 (wr.ownsRow (w.heap.size + 1) 2 1 v k (nums .i64 (normalL (l0.take k)))) ∧ Aside0 (Below w.heap.size w wr)) (fun _ i _ => l0.length - (intOf i).toNat)
    case atStart => exact ⟨0, Nat.zero_le _, rfl, ⟨⟨_, (World.ownsMap_made _ _ _ _).alloc _, Names.none⟩⟩, ⟨by simpa [nums, normalL] using own_lit (w.alloc (.map #[] 0)) (w.heap.size + 1) 2 .i64 [] (by simp) (by simp)⟩, ⟨((Below.refl _ _).alloc (Nat.le_refl _) _).alloc (by simp) _⟩⟩
    case round =>
      obtain ⟨k, hk, rfl, HT, HO, HB⟩ := hrel
      by_cases hlt : k < l0.length
      · obtain ⟨ad, eA, hx⟩ := Kd.at_int hr0 k (by omega) (by omega)
        cases eA
        replace hx := (HB.out.cell (World.block_lt_of_cell? w _ hx)).trans hx
        rw [Int.toNat_natCast] at hx
        have hkey : keyOf Tryz.prog 2 (.int .i64 (rd l0 k)) = some (.int .i64 (rd l0 k)) := keyOf_int_mk Tryz.underlying2 (wfB_at hwf.1 k)
        obtain ⟨D, hown, hcn⟩ := HT.out
        have HCN := Lib.hid hcn
        clear hcn
        have HSN := Lib.hid (normalL_snoc (l0.take k) (rd l0 k))
        have HTK := Lib.hid (take_rd hlt)
        have hnb : some w.heap.size ≠ u4.ownBlock := fun e => by have := own_base HO.out _ e.symm; omega
        have HSZ : w.heap.size + 1 ≤ wr.heap.size := hown.lt
        have HOW := HO.out
        by_cases hb : Maps.has D (.int .i64 (rd l0 k)) = true
        · go_wp2_with (first
            | (at_lookup; refine wpList_lookup_own_ok_int _ rfl _ _ 101 rfl 2 2 .i64 law2 Tryz.underlying101 Tryz.underlying2 (zero2 _) w.heap.size k _ rfl hown _ _ rfl hkey ?_; intro c hat hwc)
            | (at_builtin; (refine wpList_append_own_at _ rfl _ _ 41 rfl (w.heap.size + 1) 2 i0 (.int .i64 0) 1 8 Tryz.underlying41 hi hz0 hz1 hz2 rfl (by decide) _ _ _ rfl (HOW.alloc _) ⟨wr.heap.size, 0, none⟩ 1 1 [.int .i64 c] rfl rfl (cell_one_new _ _ _) (one_int c) (by unfold maxLen; omega) (by omega) (by simp; omega) ?_); intro v' w1 hown' hgrow hnil hloc)
            | go_in)
          go_roundw
          case rel =>
            have hg2 := (World.grownBy_alloc wr (.cells #[.int .i64 c] 2) u4.ownBlock).trans hgrow
            refine ⟨k + 1, by omega, by go_num, ⟨⟨D, (hown.kept hg2 hnb).mono (Nat.le_succ _), by rw [HTK.out]; exact HCN.out.old hb⟩⟩, ⟨by rw [HTK.out, HCN.out.at_old hb hat]; exact hown'⟩, ⟨HB.out.grown hg2 HB.out.size (fun j hj => by have := own_base HOW j hj; omega)⟩⟩
          case measure => simp [intOf]; omega
        · have hb' : Maps.has D (.int .i64 (rd l0 k)) = false := by simpa using hb
          clear hb
          go_wp2_with (first
            | (at_lookup; refine wpList_lookup_own_ok_int _ rfl _ _ 101 rfl 2 2 .i64 law2 Tryz.underlying101 Tryz.underlying2 (zero2 _) w.heap.size k _ rfl hown _ _ rfl hkey ?_; intro c hat hwc)
            | (at_len; refine wpList_len_own _ rfl _ 101 rfl 2 2 Tryz.underlying101 _ w.heap.size k D rfl hown ?_)
            | (at_mapUpdate; refine wpList_mapUpdate_own _ rfl _ _ _ 101 rfl 2 2 law2 Tryz.underlying101 _ w.heap.size k _ rfl hown (by unfold maxLen; omega) _ _ _ rfl rfl hkey _ [] (plainElem_int Tryz.underlying2 (size_wf hown hlt hlen)) ?_; intro w1 hown1 hgrow1; have HOW1 := own_other HOW hgrow1 (.inr (Ne.symm hnb)); have HSZ1 := hgrow1.size)
            | (at_builtin; (refine wpList_append_own_at _ rfl _ _ 41 rfl (w.heap.size + 1) 2 i0 (.int .i64 0) 1 8 Tryz.underlying41 hi hz0 hz1 hz2 rfl (by decide) _ _ _ rfl (HOW1.alloc _) ⟨w1.heap.size, 0, none⟩ 1 1 [.int .i64 (Maps.size D : Nat)] rfl rfl (cell_one_new _ _ _) (one_int _) (by unfold maxLen; omega) (by omega) (by simp; omega) ?_); intro v' w2 hown' hgrow hnil hloc)
            | go_in)
          go_roundw
          case rel =>
            have hg2 := (World.grownBy_alloc w1 (.cells #[.int .i64 (Maps.size D : Nat)] 2) u4.ownBlock).trans hgrow
            have hT := hown.tidy law2
            have HB1 := HB.out.grown hgrow1 HB.out.size (fun j hj => by cases hj; exact Nat.le_refl _)
            refine ⟨k + 1, by omega, by go_num, ⟨⟨_, hown1.kept hg2 hnb, by rw [HTK.out, HCN.out.1]; exact HCN.out.new hT hb'⟩⟩, ⟨by rw [HTK.out, HCN.out.at_new hb']; exact hown'⟩, ⟨HB1.grown hg2 HB1.size (fun j hj => by have := own_base HOW j hj; omega)⟩⟩
          case measure => simp [intOf]; omega
      · have hkl : k = l0.length := by omega
        subst hkl
        go_wp2
        go_ret
        rw [← HR.out]
        have ho := HO.out
        rw [List.take_length] at ho
        exact ⟨_, rfl, Kd.R_lower (R_of_ints (by rw [normalL_length]; exact ho)) (Nat.le_succ _), HB.out⟩
  · rw [if_neg hwf] at h
    cases h

/-! ### impl_IsWord: function 31 -/
def impl_IsWord.f (k : Nat) (l0 : List Int) : Option (Bool) := if (l0.length : Int) ≤ 12 then ((impl_twice.f l0).bind fun t101 => (if t101 = true then ((impl_normal.f l0).bind fun t102 => ((slices_Equal_int64_int64.f k t102 l0).bind fun t105 => (some t105))) else (some false))) else (some false)
set_option maxHeartbeats 8000000 in
set_option maxRecDepth 100000 in
theorem impl_IsWord.calls (k : Nat) (A0 : Option Addr) (c0 : Nat) (l0 : List Int) (r : Bool) (w : World) (hr0 : Kd.C (Kd.int .i64) w A0 l0.length l0) (hc0 : l0.length ≤ c0) (h : impl_IsWord.f k l0 = some r) :
    Calls Tryz.prog 31 #[.slice A0 l0.length c0] w fun e w' => e = .returned (.bool r) ∧ Below w.heap.size w w' := by
  have HR0 := Aside0.mk hr0
  have HC0 := Aside0.mk hc0
  clear hr0 hc0
  have HB := Aside0.mk (Below.refl w.heap.size w)
  have H : (if (l0.length : Int) ≤ 12 then ((impl_twice.f l0).bind fun t101 => (if t101 = true then ((impl_normal.f l0).bind fun t102 => ((slices_Equal_int64_int64.f k t102 l0).bind fun t105 => (some t105))) else (some false))) else (some false)) = some r := h
  clear h
  by_cases c2 : (l0.length : Int) ≤ 12
  · rw [if_pos c2] at H
    have c2b0 : decide ((l0.length : Int) ≤ 12) = true := decide_eq_true c2
    have c2b1 : decide (l0.length ≤ 12) = true := decide_eq_true (by omega)
    clear c2
    replace H := Option.bind_eq_some_iff.mp H
    obtain ⟨t101, A30, H⟩ := H
    replace H : (if t101 = true then ((impl_normal.f l0).bind fun t102 => ((slices_Equal_int64_int64.f k t102 l0).bind fun t105 => (some t105))) else (some false)) = some r := H
    have A3 := Aside0.mk A30
    clear A30
    by_cases c4 : t101 = true
    · subst c4
      have H1 : ((impl_normal.f l0).bind fun t102 => ((slices_Equal_int64_int64.f k t102 l0).bind fun t105 => (some t105))) = some r := by rw [if_pos rfl] at H; exact H
      clear H
      have H := H1
      clear H1
      replace H := Option.bind_eq_some_iff.mp H
      obtain ⟨t102, A50, H⟩ := H
      replace H : ((slices_Equal_int64_int64.f k t102 l0).bind fun t105 => (some t105)) = some r := H
      have A5 := Aside0.mk A50
      clear A50
      replace H := Option.bind_eq_some_iff.mp H
      obtain ⟨t105, A60, H⟩ := H
      replace H : (some t105) = some r := H
      have A6 := Aside0.mk A60
      clear A60
      obtain rfl := Option.some.inj H
      go_enter Tryz.func31, Tryz.ntmps31
      go_wp2_with (first | (go_at_call 53; (with_reducible refine (impl_twice.calls _ _ l0 true _ ?side1 ?side2 A3.out).mono ?_); (case side1 => repeat (first | exact HR0.out | (with_reducible refine Kd.C_alloc ?_ _) | (with_reducible refine Kd.C_drewN ?_ _) | (with_reducible refine Kd.C_drew ?_))); (case side2 => exact HC0.out); rintro e w7 ⟨rfl, hb⟩; have n0_ := Aside0.mk (below_step (by repeat (first | (with_reducible first | exact HB.out | apply below_alloc | apply pw_below_drewN | apply below_drew1) | exact HB.out)) hb); clear HB; have HB := n0_; clear n0_; (try clear hb); (try clear hb2); (try clear hk); (try clear hi)) | (go_at_call 55; (with_reducible refine (impl_normal.calls _ _ l0 t102 _ ?side1 ?side2 A5.out).mono ?_); (case side1 => repeat (first | exact (Kd.C_below HR0.out HB.out) | (with_reducible refine Kd.C_alloc ?_ _) | (with_reducible refine Kd.C_drewN ?_ _) | (with_reducible refine Kd.C_drew ?_))); (case side2 => exact HC0.out); rintro e w8 ⟨v103, rfl, ho0, hb⟩; have n0_ := Aside0.mk (Kd.R_lower ho0 (below_size (by repeat (first | (with_reducible first | exact HB.out | apply below_alloc | apply pw_below_drewN | apply below_drew1) | exact HB.out)))); have n1_ := Aside0.mk (below_step (by repeat (first | (with_reducible first | exact HB.out | apply below_alloc | apply pw_below_drewN | apply below_drew1) | exact HB.out)) hb); clear HB; have HO104 := n0_; have HB := n1_; clear n0_ n1_; (try clear hb); (try clear hb2); (try clear hk); (try clear hi); (try clear ho0); obtain ⟨Ao9, co9, eo9⟩ := Kd.R_slice HO104.out; subst eo9) | (go_at_call 54; (with_reducible refine (slices_Equal_int64_int64.calls k _ _ t102 _ _ l0 t105 _ ?side1 ?side2 ?side3 ?side4 A6.out).mono ?_); (case side1 => repeat (first | exact (Kd.R_reads' HO104.out).2.2 | (with_reducible refine Kd.C_alloc ?_ _) | (with_reducible refine Kd.C_drewN ?_ _) | (with_reducible refine Kd.C_drew ?_))); (case side2 => exact (Kd.R_reads' HO104.out).2.1); (case side3 => repeat (first | exact (Kd.C_below HR0.out HB.out) | (with_reducible refine Kd.C_alloc ?_ _) | (with_reducible refine Kd.C_drewN ?_ _) | (with_reducible refine Kd.C_drew ?_))); (case side4 => exact HC0.out); rintro e w' ⟨rfl, ⟨nd, rfl⟩⟩))
      go_ret
      exact ⟨by first | rfl | (simp [errW_none, errW_some] <;> rfl) | (simp [*, errW_none, errW_some] <;> rfl), by repeat (first | (with_reducible first | exact HB.out | apply below_alloc | apply pw_below_drewN | apply below_drew1) | exact HB.out)⟩
    · replace c4 := Bool.eq_false_iff.mpr c4
      subst c4
      have H1 : (some false) = some r := by rw [if_neg (show ¬ (false = true) by decide)] at H; exact H
      clear H
      have H := H1
      clear H1
      obtain rfl := Option.some.inj H
      go_enter Tryz.func31, Tryz.ntmps31
      go_wp2_with (first | (go_at_call 53; (with_reducible refine (impl_twice.calls _ _ l0 false _ ?side1 ?side2 A3.out).mono ?_); (case side1 => repeat (first | exact HR0.out | (with_reducible refine Kd.C_alloc ?_ _) | (with_reducible refine Kd.C_drewN ?_ _) | (with_reducible refine Kd.C_drew ?_))); (case side2 => exact HC0.out); rintro e w10 ⟨rfl, hb⟩; have n0_ := Aside0.mk (below_step (by repeat (first | (with_reducible first | exact HB.out | apply below_alloc | apply pw_below_drewN | apply below_drew1) | exact HB.out)) hb); clear HB; have HB := n0_; clear n0_; (try clear hb); (try clear hb2); (try clear hk); (try clear hi)))
      go_ret
      exact ⟨by first | rfl | (simp [errW_none, errW_some] <;> rfl) | (simp [*, errW_none, errW_some] <;> rfl), by repeat (first | (with_reducible first | exact HB.out | apply below_alloc | apply pw_below_drewN | apply below_drew1) | exact HB.out)⟩
  · rw [if_neg c2] at H
    have c2b0 : decide ((l0.length : Int) ≤ 12) = false := decide_eq_false c2
    have c2b1 : decide (l0.length ≤ 12) = false := decide_eq_false (by omega)
    clear c2
    obtain rfl := Option.some.inj H
    go_enter Tryz.func31, Tryz.ntmps31
    go_wp2
    go_ret
    exact ⟨by first | rfl | (simp [errW_none, errW_some] <;> rfl) | (simp [*, errW_none, errW_some] <;> rfl), by repeat (first | (with_reducible first | exact HB.out | apply below_alloc | apply pw_below_drewN | apply below_drew1) | exact HB.out)⟩

/-! ### impl_in: function 32 -/
def impl_in.f (a0 : Int) (a1 : Int) (a2 : Int) : Option (Bool) := if a0 ≥ a1 then (some (decide (a0 ≤ a2))) else (some false)
set_option maxHeartbeats 8000000 in
set_option maxRecDepth 100000 in
theorem impl_in.calls (a0 : Int) (a1 : Int) (a2 : Int) (r : Bool) (w : World) (h : impl_in.f a0 a1 a2 = some r) :
    Calls Tryz.prog 32 #[.int .i64 a0, .int .i64 a1, .int .i64 a2] w fun e w' => e = .returned (.bool r) ∧ Drawn0 w w' := by
  have H : (if a0 ≥ a1 then (some (decide (a0 ≤ a2))) else (some false)) = some r := h
  clear h
  by_cases c4 : a0 ≥ a1
  · rw [if_pos c4] at H
    have c4b0 : decide (a1 ≤ a0) = true := decide_eq_true c4
    clear c4
    obtain rfl := Option.some.inj H
    go_enter Tryz.func32, Tryz.ntmps32
    go_wp2
    go_ret
    exact ⟨by first | rfl | (simp; done) | (simp [*]; done), by repeat (first | exact Drawn0.refl _ | apply Drawn0.step)⟩
  · rw [if_neg c4] at H
    have c4b0 : decide (a1 ≤ a0) = false := decide_eq_false c4
    clear c4
    obtain rfl := Option.some.inj H
    go_enter Tryz.func32, Tryz.ntmps32
    go_wp2
    go_ret
    exact ⟨by first | rfl | (simp; done) | (simp [*]; done), by repeat (first | exact Drawn0.refl _ | apply Drawn0.step)⟩

end Go.Proofs.YtflpdjmdkdgijaaGreatDoor.G
