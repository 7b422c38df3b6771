-- Written by the session's program mk.py (which runs the kit's print.py over functions and over contracts given by hand).
import Derived.Test.YtckmncebedhgeaaG0
import Derived.Test.YtckmncebedhgeaaGgI
import Derived.Test.YtckmncebedhgeaaPlainA
import Derived.Test.YtckmncebedhgeaaPlainM
namespace Go.Proofs.Ytckmncebedhgeaa.G
open Go.RowKit Go.Maps Go.Proofs.YtckmncebedhgeaaW.PrintWords Go.Proofs.YtckmncebedhgeaaW.PrintLast Go.Proofs.YtckmncebedhgeaaW.PrintMore
attribute [local go_sem] max2_int min2_int max_two min_two max_three min_three max_four min_four   -- for this text's walks alone
set_option linter.unusedVariables false
set_option linter.unusedSimpArgs false

open Go.Proofs.Ytckmncebedhgeaa.Plain
/-! ### impl_gaussText: function 128, by hand -/
def impl_gaussText.ok (l0 l1 l2 : List Int) : Bool := wfB l0 && (decide (l0.length ≤ 1048576) && l0.all fun x => decide (0 ≤ x ∧ x < (l1.length : Int) ∧ x < (l2.length : Int)))
def impl_gaussText.f (l0_0 : List Int) (l0_1 : List Int) (l0_2 : List Int) : Option (ByteArray) := if impl_gaussText.ok l0_0 l0_1 l0_2 = true then some (strOfNums (gtF l0_0 l0_1 l0_2 l0_0.length)) else none
theorem zeroGT (w : World) : (zeroValue 4).run Try.prog w = .ok (.bool false) w := by kernel_rfl
def SeenAt (w' : World) (b n : Nat) (l : List Int) : Prop := ∃ D : DataW Unit, w'.ownsMap Try.prog 2 (plainElem Try.prog 4) b n D ∧ Seen D l
set_option maxHeartbeats 16000000 in
set_option maxRecDepth 100000 in
theorem impl_gaussText.calls (A0_0 : Option Addr) (c0_0 : Nat) (l0_0 : List Int) (A0_1 : Option Addr) (c0_1 : Nat) (l0_1 : List Int) (A0_2 : Option Addr) (c0_2 : Nat) (l0_2 : List Int) (r : ByteArray) (w : World) (hr0_0 : Kd.C (Kd.int .i64) w A0_0 l0_0.length l0_0) (hc0_0 : l0_0.length ≤ c0_0) (hr0_1 : Kd.C (Kd.int .i64) w A0_1 l0_1.length l0_1) (hc0_1 : l0_1.length ≤ c0_1) (hr0_2 : Kd.C (Kd.int .i64) w A0_2 l0_2.length l0_2) (hc0_2 : l0_2.length ≤ c0_2) (h : impl_gaussText.f l0_0 l0_1 l0_2 = some r) :
    Calls Try.prog 128 #[.agg #[.slice A0_0 l0_0.length c0_0, .slice A0_1 l0_1.length c0_1, .slice A0_2 l0_2.length c0_2]] w fun e w' => e = .returned (.string r) ∧ Below w.heap.size w w' := by
  have hu49 := Try.underlying49
  have hmm := @run_makeMap Try.prog
  unfold impl_gaussText.f at h
  by_cases hok : impl_gaussText.ok l0_0 l0_1 l0_2 = true
  · rw [if_pos hok] at h
    obtain rfl := Option.some.inj h
    clear h
    have hok2 := hok
    unfold impl_gaussText.ok at hok2
    rw [Bool.and_eq_true, Bool.and_eq_true] at hok2
    have hwf := hok2.1
    have hlen : l0_0.length ≤ 1048576 := of_decide_eq_true hok2.2.1
    have HIN := Aside0.mk (fun (k : Nat) (hk : k < l0_0.length) => of_decide_eq_true (List.all_eq_true.1 hok2.2.2 l0_0[k] (List.getElem_mem hk)))
    have HLEN := Aside0.mk hlen
    have HWF := Aside0.mk hwf
    clear hok hok2 hlen hwf
    have HR0_0 := Aside0.mk hr0_0
    have HC0_0 := Aside0.mk hc0_0
    clear hr0_0 hc0_0
    have HR0_1 := Aside0.mk hr0_1
    have HC0_1 := Aside0.mk hc0_1
    clear hr0_1 hc0_1
    have HR0_2 := Aside0.mk hr0_2
    have HC0_2 := Aside0.mk hc0_2
    clear hr0_2 hc0_2
    have HB := Aside0.mk (Below.refl w.heap.size w)
    obtain ⟨N, hN⟩ : ∃ N, l0_0.length = N := ⟨_, rfl⟩
    have HN := Aside0.mk hN
    clear hN
    go_enter Try.func128, Try.ntmps128
    go_wp2_with (first | ((with_reducible refine gate_dst (N := 1) rfl ?_); refine box_event ?hg (N := 1) ?hd (cs := #[.slice A0_0 l0_0.length c0_0, .slice A0_1 l0_1.length c0_1, .slice A0_2 l0_2.length c0_2]) (t := 49) ?hr ?_; (case hd => rfl); (case hg => rfl); (case hr => first | (go_simp; done) | (go_simp; rfl)); intro gb hg w2 hbox hb; have n0_ := Aside0.mk (below_step HB.out hb); have n1_ := Aside0.mk hbox; clear HB; have HB := n0_; have BK := n1_; clear n0_ n1_ hb hbox hg) | ((with_reducible refine gate_dst (N := 9) rfl ?_); refine Kd.R_lit (Kd.int .u8) _ 5 ?hg (N := 9) ?hd (xs := ([] : List Int)) (inner := []) (ok := fun _ => True) (okp := fun _ => True) ?hr ?hp (fun _ hk => hk) trivial (Below.refl _ _) (Nat.le_refl _) (by simp) ?_; (case hd => rfl); (case hg => rfl); (case hr => first | (go_simp; done) | (go_simp; rfl)); (case hp => exact (Reps.none _ _)); intro v3 w3 ho3 hb hg_ hnew_; clear hg_ hnew_; have n0_ := Aside0.mk (Kd.R_lower ho3 HB.out.size); have n2_ := Aside0.mk (blk_below BK.out hb); have n1_ := Aside0.mk (below_step HB.out hb); clear HB BK; have HO := n0_; have HB := n1_; have BK := n2_; clear n0_ n1_ n2_ hb ho3; have hz0 : (w3.alloc (.map #[] 0)).cell? ⟨gb, 0, none⟩ = some (.slice A0_0 l0_0.length c0_0) := (blk_cell (blk_alloc BK.out _) 0).trans rfl))
    have HM := Aside0.mk (show SeenAt (w3.alloc (.map #[] 0)) w3.heap.size 0 [] from ⟨_, World.ownsMap_made _ _ _ _, Seen.none⟩)
    have n0_ := Aside0.mk (Kd.R_alloc HO.out (.map #[] 0))
    have n1_ := Aside0.mk (below_alloc HB.out (.map #[] 0))
    have n2_ := Aside0.mk (blk_alloc BK.out (.map #[] 0))
    have hbg : w.heap.size ≤ w3.heap.size := HB.out.size
    have HBG := Aside0.mk hbg
    clear HO HB BK hz0 hbg
    have HO := n0_
    have HB := n1_
    have BK := n2_
    clear n0_ n1_ n2_
    rw [HN.out]
    generalize w3.alloc (.map #[] 0) = w4 at HM HO HB BK ⊢
    go_loopg [3, 14] (N + 1) (fun kq v3 v14 w' => ∃ (k : Nat), v14 = .int .i64 k ∧ Aside0 (k ≤ N) ∧ Aside0 (kq = N + 1 - k) ∧ Aside0 (Kd.R (Kd.int .u8) 5 w' w.heap.size (fun _ => True) v3 (gtF l0_0 l0_1 l0_2 k)) ∧ Aside0 (SeenAt w' w3.heap.size k (l0_0.take k)) ∧ Aside0 (w'.heap[gb]? = some (.cells #[.slice A0_0 l0_0.length c0_0, .slice A0_1 l0_1.length c0_1, .slice A0_2 l0_2.length c0_2] 49 (0, 0))) ∧ Aside0 (Below w.heap.size w w'))
    case atStart => exact ⟨0, (by first | rfl | (simp; done)), ⟨Nat.zero_le _⟩, ⟨rfl⟩, HO, ⟨by rw [List.take_zero]; exact HM.out⟩, BK, HB⟩
    case round =>
      clear HM HO HB BK
      obtain ⟨k, rfl, HKN, HK, HO, HM, BK, HB⟩ := hrel
      by_cases c : k < N
      · have c1 : decide ((k : Int) < (N : Int)) = true := decide_eq_true (by omega)
        have c2 : decide (k < N) = true := decide_eq_true c
        have hkl : k < l0_0.length := by rw [HN.out]; exact c
        have hin := HIN.out k hkl
        have hrd : rd l0_0 (k : Int) = l0_0[k] := by unfold rd; rw [Int.toNat_natCast, List.getD_eq_getElem?_getD, List.getElem?_eq_getElem hkl]; rfl
        rw [← hrd] at hin
        have hwk := wfB_at HWF.out k
        obtain ⟨ad, e1, hx⟩ := Kd.at_int HR0_0.out (k : Int) (by omega) (by omega)
        subst e1
        replace hx := (HB.out.cell (World.block_lt_of_cell? w _ hx)).trans hx
        rw [Int.toNat_natCast] at hx
        have p1 : (0 ≤ (k : Int)) = True := eq_true (by omega)
        have q1 : ((k : Int) < (l0_0.length : Int)) = True := eq_true (by omega)
        have q2 : ((k : Int) < (N : Int)) = True := eq_true (by omega)
        have hkey : keyOf Try.prog 2 (.int .i64 (rd l0_0 k)) = some (.int .i64 (rd l0_0 k)) := keyOf_int_mk Try.underlying2 hwk
        have hgl := gtF_length l0_0 l0_1 l0_2 k
        have HGL := Aside0.mk (show (gtF l0_0 l0_1 l0_2 k).length ≤ 3145728 by have := HLEN.out; omega)
        have hw1 : wrap64 ((k : Int) + 1) = (k : Int) + 1 := by rw [← i64_w]; exact Go.wrap_small _ (by omega) (by have := HLEN.out; omega)
        have HTK := Aside0.mk (take_rd hkl)
        have hgs : gtF l0_0 l0_1 l0_2 (k + 1) = gtF l0_0 l0_1 l0_2 k ++ gtN l0_1 l0_2 (l0_0.take k) (rd l0_0 k) := rfl
        have HGS := Aside0.mk hgs
        have hk20 : k < 1048576 := by have := HLEN.out; omega
        have HK20 := Aside0.mk hk20
        have HCK := Aside0.mk c
        obtain ⟨x, hxe⟩ : ∃ x, rd l0_0 (k : Int) = x := ⟨_, rfl⟩
        rw [hxe] at hx hkey hin HTK HGS
        clear hrd hgl hgs hk20 hwk hkl c
        cases gk with
        | zero => exact absurd HK.out (by have := HCK.out; omega)
        | succ k1 =>
        cases hcc : (l0_0.take k).contains x with
        | true =>
          go_wp2_with (first | ((with_reducible refine gate_builtin (b := .append) (xs := #[.tmp 18, .tmp 22]) rfl ?_); at_builtin; refine Kd.R_append (Kd.int .u8) (w0 := w) w.heap.size rfl (.tmp 18) (.tmp 22) 113 5 (.int .u8 0) 1 rfl Try.underlying113 info5 rfl (by decide) (by omega) u3 (gtF l0_0 l0_1 l0_2 k) ((97 + x) % 256) [.int .u8 ((97 + x) % 256)] (fun _ => True) (fun _ => False) rfl rfl rfl (fun _ hk => hk.elim) (fun _ _ => trivial) HO.out HB.out HB.out.size (by have := HGL.out; omega) ?_; intro v5 w5 ho hb hg hat; have n0_ := Aside0.mk ho; have n1_ := Aside0.mk hb; have n2_ := Aside0.mk (blk_grown BK.out hg (Kd.R_ne HO.out BK.out (by decide))); obtain ⟨D, hown, hsn⟩ := HM.out; have hown5 := hown.kept hg (map_ne_row hown HO.out); have HSN := Aside0.mk hsn; clear HO HB BK HM hown hsn; have HO := n0_; have HB := n1_; have BK := n2_; clear n0_ n1_ n2_ ho hb hg hat) | (at_lookup; refine wpList_lookup_own_bool _ rfl _ _ 114 rfl 2 4 law2 Try.underlying114 Try.underlying4 (zeroGT _) w3.heap.size k _ rfl hown5 _ _ rfl hkey true (by rw [HSN.out x, hcc]) ?_) | (at_mapUpdate; refine wpList_mapUpdate_own _ rfl _ _ _ 114 rfl 2 4 law2 Try.underlying114 _ w3.heap.size k _ rfl hown5 (by have := HK20.out; unfold maxLen; omega) _ _ _ rfl rfl hkey _ [] (plainElem_bool Try.underlying4 true) ?_; intro w9 hown9 hg9; have n0_ := Aside0.mk (row_map hown5 hg9 HO.out); have n1_ := Aside0.mk (blk_grown BK.out hg9 (fun e_ => map_ne_blk hown5 BK.out (by injection e_ with e_; exact e_.symm))); have n2_ := Aside0.mk (pw_below_grown HB.out (some w3.heap.size) HB.out.size hg9 (fun k_ e_ => by cases e_; exact HBG.out)); have n3_ := Aside0.mk (show SeenAt w9 w3.heap.size (k + 1) (l0_0.take (k + 1)) from ⟨_, hown9, by rw [HTK.out]; exact HSN.out.step hown5.isMap⟩); clear HO HB BK hown9 hg9; have HO := n0_; have BK := n1_; have HB := n2_; have HM := n3_; clear n0_ n1_ n2_ n3_))
          go_roundg k1
          case measure => omega
          case rel => exact ⟨k + 1, (by first | rfl | (simp; done) | (simp [hw1]; done)), ⟨by have := HCK.out; omega⟩, ⟨by have := HK.out; omega⟩, ⟨by rw [HGS.out]; unfold gtN; rw [if_pos hcc]; exact HO.out⟩, HM, BK, HB⟩
        | false =>
          by_cases hs : rd l0_2 x < 0
          · have ds : decide (rd l0_2 x < 0) = true := decide_eq_true hs
            by_cases hh : rd l0_1 x = 1
            · have dh : (rd l0_1 x == 1) = true := by simp [hh]
              have dh2 : decide (rd l0_1 x = 1) = true := by simp [hh]
              go_wp2_with (first | ((with_reducible refine gate_builtin (b := .append) (xs := #[.tmp 18, .tmp 22]) rfl ?_); at_builtin; refine Kd.R_append (Kd.int .u8) (w0 := w) w.heap.size rfl (.tmp 18) (.tmp 22) 113 5 (.int .u8 0) 1 rfl Try.underlying113 info5 rfl (by decide) (by omega) u3 (gtF l0_0 l0_1 l0_2 k) ((97 + x) % 256) [.int .u8 ((97 + x) % 256)] (fun _ => True) (fun _ => False) rfl rfl rfl (fun _ hk => hk.elim) (fun _ _ => trivial) HO.out HB.out HB.out.size (by have := HGL.out; omega) ?_; intro v5 w5 ho hb hg hat; have n0_ := Aside0.mk ho; have n1_ := Aside0.mk hb; have n2_ := Aside0.mk (blk_grown BK.out hg (Kd.R_ne HO.out BK.out (by decide))); obtain ⟨D, hown, hsn⟩ := HM.out; have hown5 := hown.kept hg (map_ne_row hown HO.out); have HSN := Aside0.mk hsn; clear HO HB BK HM hown hsn; have HO := n0_; have HB := n1_; have BK := n2_; clear n0_ n1_ n2_ ho hb hg hat) | (at_lookup; refine wpList_lookup_own_bool _ rfl _ _ 114 rfl 2 4 law2 Try.underlying114 Try.underlying4 (zeroGT _) w3.heap.size k _ rfl hown5 _ _ rfl hkey false (by rw [HSN.out x, hcc]) ?_; have hz1 : w5.cell? ⟨gb, 1, none⟩ = some (.slice A0_1 l0_1.length c0_1) := (blk_cell BK.out 1).trans rfl; have hz2 : w5.cell? ⟨gb, 2, none⟩ = some (.slice A0_2 l0_2.length c0_2) := (blk_cell BK.out 2).trans rfl; obtain ⟨ad1, e1, hx1⟩ := Kd.at_int (Kd.C_below HR0_1.out HB.out) x hin.1 hin.2.1; obtain ⟨ad2, e2, hx2⟩ := Kd.at_int (Kd.C_below HR0_2.out HB.out) x hin.1 hin.2.2; subst e1; subst e2; have px : (0 ≤ x) = True := eq_true hin.1; have qx1 : (x < (l0_1.length : Int)) = True := eq_true hin.2.1; have qx2 : (x < (l0_2.length : Int)) = True := eq_true hin.2.2) | ((with_reducible refine gate_dst (N := 43) rfl ?_); refine Kd.R_lit (Kd.int .u8) _ 5 ?hg (N := 43) ?hd (xs := ([45, 111] : List Int)) (inner := [.int .u8 45, .int .u8 111]) (ok := fun _ => True) (okp := fun _ => True) ?hr ?hp (fun _ hk => hk) trivial (Below.refl _ _) (Nat.le_refl _) (by simp) ?_; (case hd => rfl); (case hg => rfl); (case hr => first | (go_simp; done) | (go_simp; rfl)); (case hp => exact Kd.reps_scalar (enc := Value.int .u8) ([45, 111] : List Int)); intro v6 w6 ho6 hb hg_ hnew_; have n0_ := Aside0.mk (Kd.R_below HO.out hb); have n1_ := Aside0.mk (blk_below BK.out hb); have n2_ := Aside0.mk (below_step HB.out hb); have hown6 := hown5.kept hg_ (by simp); have H6 := Aside0.mk ho6; clear HO BK HB hown5 hnew_ hb ho6 hg_; have HO := n0_; have BK := n1_; have HB := n2_; clear n0_ n1_ n2_; obtain ⟨A6, c6, e6⟩ := Kd.R_slice H6.out; subst e6) | ((with_reducible refine gate_builtin (b := .append) (xs := #[.tmp 40, .tmp 43]) rfl ?_); at_builtin; refine Kd.R_append_row (Value.int .u8) (0 : Int) (w0 := w) w.heap.size rfl (.tmp 40) (.tmp 43) 113 5 (.int .u8 0) 1 rfl Try.underlying113 info5 rfl (by omega) v5 (gtF l0_0 l0_1 l0_2 k ++ [(97 + x) % 256]) [45, 111] A6 2 c6 (fun _ => True) rfl rfl (fun _ _ => trivial) HO.out (Kd.R_reads' H6.out).2.2 HB.out HB.out.size (by have := HGL.out; simp; omega) ?_; intro v7 w7 ho hb hg hat; have n0_ := Aside0.mk ho; have n1_ := Aside0.mk hb; have n2_ := Aside0.mk (blk_grown BK.out hg (Kd.R_ne HO.out BK.out (by decide))); have hown7 := hown6.kept hg (map_ne_row hown6 HO.out); clear HO HB BK hown6; have HO := n0_; have HB := n1_; have BK := n2_; clear n0_ n1_ n2_ ho hb hg hat) | (at_mapUpdate; refine wpList_mapUpdate_own _ rfl _ _ _ 114 rfl 2 4 law2 Try.underlying114 _ w3.heap.size k _ rfl hown7 (by have := HK20.out; unfold maxLen; omega) _ _ _ rfl rfl hkey _ [] (plainElem_bool Try.underlying4 true) ?_; intro w9 hown9 hg9; have n0_ := Aside0.mk (row_map hown7 hg9 HO.out); have n1_ := Aside0.mk (blk_grown BK.out hg9 (fun e_ => map_ne_blk hown7 BK.out (by injection e_ with e_; exact e_.symm))); have n2_ := Aside0.mk (pw_below_grown HB.out (some w3.heap.size) HB.out.size hg9 (fun k_ e_ => by cases e_; exact HBG.out)); have n3_ := Aside0.mk (show SeenAt w9 w3.heap.size (k + 1) (l0_0.take (k + 1)) from ⟨_, hown9, by rw [HTK.out]; exact HSN.out.step hown7.isMap⟩); clear HO HB BK hown9 hg9; have HO := n0_; have BK := n1_; have HB := n2_; have HM := n3_; clear n0_ n1_ n2_ n3_))
              go_roundg k1
              case measure => omega
              case rel => exact ⟨k + 1, (by first | rfl | (simp; done) | (simp [hw1]; done)), ⟨by have := HCK.out; omega⟩, ⟨by have := HK.out; omega⟩, ⟨by rw [HGS.out]; unfold gtN; rw [if_neg (by rw [hcc]; decide)]; rw [if_pos hs]; rw [if_pos hh]; have h9 := HO.out; rw [List.append_assoc] at h9; exact h9⟩, HM, BK, HB⟩
            · have dh : (rd l0_1 x == 1) = false := by simp [hh]
              have dh2 : decide (rd l0_1 x = 1) = false := by simp [hh]
              go_wp2_with (first | ((with_reducible refine gate_builtin (b := .append) (xs := #[.tmp 18, .tmp 22]) rfl ?_); at_builtin; refine Kd.R_append (Kd.int .u8) (w0 := w) w.heap.size rfl (.tmp 18) (.tmp 22) 113 5 (.int .u8 0) 1 rfl Try.underlying113 info5 rfl (by decide) (by omega) u3 (gtF l0_0 l0_1 l0_2 k) ((97 + x) % 256) [.int .u8 ((97 + x) % 256)] (fun _ => True) (fun _ => False) rfl rfl rfl (fun _ hk => hk.elim) (fun _ _ => trivial) HO.out HB.out HB.out.size (by have := HGL.out; omega) ?_; intro v5 w5 ho hb hg hat; have n0_ := Aside0.mk ho; have n1_ := Aside0.mk hb; have n2_ := Aside0.mk (blk_grown BK.out hg (Kd.R_ne HO.out BK.out (by decide))); obtain ⟨D, hown, hsn⟩ := HM.out; have hown5 := hown.kept hg (map_ne_row hown HO.out); have HSN := Aside0.mk hsn; clear HO HB BK HM hown hsn; have HO := n0_; have HB := n1_; have BK := n2_; clear n0_ n1_ n2_ ho hb hg hat) | (at_lookup; refine wpList_lookup_own_bool _ rfl _ _ 114 rfl 2 4 law2 Try.underlying114 Try.underlying4 (zeroGT _) w3.heap.size k _ rfl hown5 _ _ rfl hkey false (by rw [HSN.out x, hcc]) ?_; have hz1 : w5.cell? ⟨gb, 1, none⟩ = some (.slice A0_1 l0_1.length c0_1) := (blk_cell BK.out 1).trans rfl; have hz2 : w5.cell? ⟨gb, 2, none⟩ = some (.slice A0_2 l0_2.length c0_2) := (blk_cell BK.out 2).trans rfl; obtain ⟨ad1, e1, hx1⟩ := Kd.at_int (Kd.C_below HR0_1.out HB.out) x hin.1 hin.2.1; obtain ⟨ad2, e2, hx2⟩ := Kd.at_int (Kd.C_below HR0_2.out HB.out) x hin.1 hin.2.2; subst e1; subst e2; have px : (0 ≤ x) = True := eq_true hin.1; have qx1 : (x < (l0_1.length : Int)) = True := eq_true hin.2.1; have qx2 : (x < (l0_2.length : Int)) = True := eq_true hin.2.2) | ((with_reducible refine gate_dst (N := 43) rfl ?_); refine Kd.R_lit (Kd.int .u8) _ 5 ?hg (N := 43) ?hd (xs := ([45, 117] : List Int)) (inner := [.int .u8 45, .int .u8 117]) (ok := fun _ => True) (okp := fun _ => True) ?hr ?hp (fun _ hk => hk) trivial (Below.refl _ _) (Nat.le_refl _) (by simp) ?_; (case hd => rfl); (case hg => rfl); (case hr => first | (go_simp; done) | (go_simp; rfl)); (case hp => exact Kd.reps_scalar (enc := Value.int .u8) ([45, 117] : List Int)); intro v6 w6 ho6 hb hg_ hnew_; have n0_ := Aside0.mk (Kd.R_below HO.out hb); have n1_ := Aside0.mk (blk_below BK.out hb); have n2_ := Aside0.mk (below_step HB.out hb); have hown6 := hown5.kept hg_ (by simp); have H6 := Aside0.mk ho6; clear HO BK HB hown5 hnew_ hb ho6 hg_; have HO := n0_; have BK := n1_; have HB := n2_; clear n0_ n1_ n2_; obtain ⟨A6, c6, e6⟩ := Kd.R_slice H6.out; subst e6) | ((with_reducible refine gate_builtin (b := .append) (xs := #[.tmp 40, .tmp 43]) rfl ?_); at_builtin; refine Kd.R_append_row (Value.int .u8) (0 : Int) (w0 := w) w.heap.size rfl (.tmp 40) (.tmp 43) 113 5 (.int .u8 0) 1 rfl Try.underlying113 info5 rfl (by omega) v5 (gtF l0_0 l0_1 l0_2 k ++ [(97 + x) % 256]) [45, 117] A6 2 c6 (fun _ => True) rfl rfl (fun _ _ => trivial) HO.out (Kd.R_reads' H6.out).2.2 HB.out HB.out.size (by have := HGL.out; simp; omega) ?_; intro v7 w7 ho hb hg hat; have n0_ := Aside0.mk ho; have n1_ := Aside0.mk hb; have n2_ := Aside0.mk (blk_grown BK.out hg (Kd.R_ne HO.out BK.out (by decide))); have hown7 := hown6.kept hg (map_ne_row hown6 HO.out); clear HO HB BK hown6; have HO := n0_; have HB := n1_; have BK := n2_; clear n0_ n1_ n2_ ho hb hg hat) | (at_mapUpdate; refine wpList_mapUpdate_own _ rfl _ _ _ 114 rfl 2 4 law2 Try.underlying114 _ w3.heap.size k _ rfl hown7 (by have := HK20.out; unfold maxLen; omega) _ _ _ rfl rfl hkey _ [] (plainElem_bool Try.underlying4 true) ?_; intro w9 hown9 hg9; have n0_ := Aside0.mk (row_map hown7 hg9 HO.out); have n1_ := Aside0.mk (blk_grown BK.out hg9 (fun e_ => map_ne_blk hown7 BK.out (by injection e_ with e_; exact e_.symm))); have n2_ := Aside0.mk (pw_below_grown HB.out (some w3.heap.size) HB.out.size hg9 (fun k_ e_ => by cases e_; exact HBG.out)); have n3_ := Aside0.mk (show SeenAt w9 w3.heap.size (k + 1) (l0_0.take (k + 1)) from ⟨_, hown9, by rw [HTK.out]; exact HSN.out.step hown7.isMap⟩); clear HO HB BK hown9 hg9; have HO := n0_; have BK := n1_; have HB := n2_; have HM := n3_; clear n0_ n1_ n2_ n3_))
              go_roundg k1
              case measure => omega
              case rel => exact ⟨k + 1, (by first | rfl | (simp; done) | (simp [hw1]; done)), ⟨by have := HCK.out; omega⟩, ⟨by have := HK.out; omega⟩, ⟨by rw [HGS.out]; unfold gtN; rw [if_neg (by rw [hcc]; decide)]; rw [if_pos hs]; rw [if_neg hh]; have h9 := HO.out; rw [List.append_assoc] at h9; exact h9⟩, HM, BK, HB⟩
          · have ds : decide (rd l0_2 x < 0) = false := decide_eq_false hs
            by_cases hh : rd l0_1 x = 1
            · have dh : (rd l0_1 x == 1) = true := by simp [hh]
              have dh2 : decide (rd l0_1 x = 1) = true := by simp [hh]
              go_wp2_with (first | ((with_reducible refine gate_builtin (b := .append) (xs := #[.tmp 18, .tmp 22]) rfl ?_); at_builtin; refine Kd.R_append (Kd.int .u8) (w0 := w) w.heap.size rfl (.tmp 18) (.tmp 22) 113 5 (.int .u8 0) 1 rfl Try.underlying113 info5 rfl (by decide) (by omega) u3 (gtF l0_0 l0_1 l0_2 k) ((97 + x) % 256) [.int .u8 ((97 + x) % 256)] (fun _ => True) (fun _ => False) rfl rfl rfl (fun _ hk => hk.elim) (fun _ _ => trivial) HO.out HB.out HB.out.size (by have := HGL.out; omega) ?_; intro v5 w5 ho hb hg hat; have n0_ := Aside0.mk ho; have n1_ := Aside0.mk hb; have n2_ := Aside0.mk (blk_grown BK.out hg (Kd.R_ne HO.out BK.out (by decide))); obtain ⟨D, hown, hsn⟩ := HM.out; have hown5 := hown.kept hg (map_ne_row hown HO.out); have HSN := Aside0.mk hsn; clear HO HB BK HM hown hsn; have HO := n0_; have HB := n1_; have BK := n2_; clear n0_ n1_ n2_ ho hb hg hat) | (at_lookup; refine wpList_lookup_own_bool _ rfl _ _ 114 rfl 2 4 law2 Try.underlying114 Try.underlying4 (zeroGT _) w3.heap.size k _ rfl hown5 _ _ rfl hkey false (by rw [HSN.out x, hcc]) ?_; have hz1 : w5.cell? ⟨gb, 1, none⟩ = some (.slice A0_1 l0_1.length c0_1) := (blk_cell BK.out 1).trans rfl; have hz2 : w5.cell? ⟨gb, 2, none⟩ = some (.slice A0_2 l0_2.length c0_2) := (blk_cell BK.out 2).trans rfl; obtain ⟨ad1, e1, hx1⟩ := Kd.at_int (Kd.C_below HR0_1.out HB.out) x hin.1 hin.2.1; obtain ⟨ad2, e2, hx2⟩ := Kd.at_int (Kd.C_below HR0_2.out HB.out) x hin.1 hin.2.2; subst e1; subst e2; have px : (0 ≤ x) = True := eq_true hin.1; have qx1 : (x < (l0_1.length : Int)) = True := eq_true hin.2.1; have qx2 : (x < (l0_2.length : Int)) = True := eq_true hin.2.2) | ((with_reducible refine gate_dst (N := 43) rfl ?_); refine Kd.R_lit (Kd.int .u8) _ 5 ?hg (N := 43) ?hd (xs := ([43, 111] : List Int)) (inner := [.int .u8 43, .int .u8 111]) (ok := fun _ => True) (okp := fun _ => True) ?hr ?hp (fun _ hk => hk) trivial (Below.refl _ _) (Nat.le_refl _) (by simp) ?_; (case hd => rfl); (case hg => rfl); (case hr => first | (go_simp; done) | (go_simp; rfl)); (case hp => exact Kd.reps_scalar (enc := Value.int .u8) ([43, 111] : List Int)); intro v6 w6 ho6 hb hg_ hnew_; have n0_ := Aside0.mk (Kd.R_below HO.out hb); have n1_ := Aside0.mk (blk_below BK.out hb); have n2_ := Aside0.mk (below_step HB.out hb); have hown6 := hown5.kept hg_ (by simp); have H6 := Aside0.mk ho6; clear HO BK HB hown5 hnew_ hb ho6 hg_; have HO := n0_; have BK := n1_; have HB := n2_; clear n0_ n1_ n2_; obtain ⟨A6, c6, e6⟩ := Kd.R_slice H6.out; subst e6) | ((with_reducible refine gate_builtin (b := .append) (xs := #[.tmp 40, .tmp 43]) rfl ?_); at_builtin; refine Kd.R_append_row (Value.int .u8) (0 : Int) (w0 := w) w.heap.size rfl (.tmp 40) (.tmp 43) 113 5 (.int .u8 0) 1 rfl Try.underlying113 info5 rfl (by omega) v5 (gtF l0_0 l0_1 l0_2 k ++ [(97 + x) % 256]) [43, 111] A6 2 c6 (fun _ => True) rfl rfl (fun _ _ => trivial) HO.out (Kd.R_reads' H6.out).2.2 HB.out HB.out.size (by have := HGL.out; simp; omega) ?_; intro v7 w7 ho hb hg hat; have n0_ := Aside0.mk ho; have n1_ := Aside0.mk hb; have n2_ := Aside0.mk (blk_grown BK.out hg (Kd.R_ne HO.out BK.out (by decide))); have hown7 := hown6.kept hg (map_ne_row hown6 HO.out); clear HO HB BK hown6; have HO := n0_; have HB := n1_; have BK := n2_; clear n0_ n1_ n2_ ho hb hg hat) | (at_mapUpdate; refine wpList_mapUpdate_own _ rfl _ _ _ 114 rfl 2 4 law2 Try.underlying114 _ w3.heap.size k _ rfl hown7 (by have := HK20.out; unfold maxLen; omega) _ _ _ rfl rfl hkey _ [] (plainElem_bool Try.underlying4 true) ?_; intro w9 hown9 hg9; have n0_ := Aside0.mk (row_map hown7 hg9 HO.out); have n1_ := Aside0.mk (blk_grown BK.out hg9 (fun e_ => map_ne_blk hown7 BK.out (by injection e_ with e_; exact e_.symm))); have n2_ := Aside0.mk (pw_below_grown HB.out (some w3.heap.size) HB.out.size hg9 (fun k_ e_ => by cases e_; exact HBG.out)); have n3_ := Aside0.mk (show SeenAt w9 w3.heap.size (k + 1) (l0_0.take (k + 1)) from ⟨_, hown9, by rw [HTK.out]; exact HSN.out.step hown7.isMap⟩); clear HO HB BK hown9 hg9; have HO := n0_; have BK := n1_; have HB := n2_; have HM := n3_; clear n0_ n1_ n2_ n3_))
              go_roundg k1
              case measure => omega
              case rel => exact ⟨k + 1, (by first | rfl | (simp; done) | (simp [hw1]; done)), ⟨by have := HCK.out; omega⟩, ⟨by have := HK.out; omega⟩, ⟨by rw [HGS.out]; unfold gtN; rw [if_neg (by rw [hcc]; decide)]; rw [if_neg (show ¬ rd l0_2 x < 0 by omega)]; rw [if_pos hh]; have h9 := HO.out; rw [List.append_assoc] at h9; exact h9⟩, HM, BK, HB⟩
            · have dh : (rd l0_1 x == 1) = false := by simp [hh]
              have dh2 : decide (rd l0_1 x = 1) = false := by simp [hh]
              go_wp2_with (first | ((with_reducible refine gate_builtin (b := .append) (xs := #[.tmp 18, .tmp 22]) rfl ?_); at_builtin; refine Kd.R_append (Kd.int .u8) (w0 := w) w.heap.size rfl (.tmp 18) (.tmp 22) 113 5 (.int .u8 0) 1 rfl Try.underlying113 info5 rfl (by decide) (by omega) u3 (gtF l0_0 l0_1 l0_2 k) ((97 + x) % 256) [.int .u8 ((97 + x) % 256)] (fun _ => True) (fun _ => False) rfl rfl rfl (fun _ hk => hk.elim) (fun _ _ => trivial) HO.out HB.out HB.out.size (by have := HGL.out; omega) ?_; intro v5 w5 ho hb hg hat; have n0_ := Aside0.mk ho; have n1_ := Aside0.mk hb; have n2_ := Aside0.mk (blk_grown BK.out hg (Kd.R_ne HO.out BK.out (by decide))); obtain ⟨D, hown, hsn⟩ := HM.out; have hown5 := hown.kept hg (map_ne_row hown HO.out); have HSN := Aside0.mk hsn; clear HO HB BK HM hown hsn; have HO := n0_; have HB := n1_; have BK := n2_; clear n0_ n1_ n2_ ho hb hg hat) | (at_lookup; refine wpList_lookup_own_bool _ rfl _ _ 114 rfl 2 4 law2 Try.underlying114 Try.underlying4 (zeroGT _) w3.heap.size k _ rfl hown5 _ _ rfl hkey false (by rw [HSN.out x, hcc]) ?_; have hz1 : w5.cell? ⟨gb, 1, none⟩ = some (.slice A0_1 l0_1.length c0_1) := (blk_cell BK.out 1).trans rfl; have hz2 : w5.cell? ⟨gb, 2, none⟩ = some (.slice A0_2 l0_2.length c0_2) := (blk_cell BK.out 2).trans rfl; obtain ⟨ad1, e1, hx1⟩ := Kd.at_int (Kd.C_below HR0_1.out HB.out) x hin.1 hin.2.1; obtain ⟨ad2, e2, hx2⟩ := Kd.at_int (Kd.C_below HR0_2.out HB.out) x hin.1 hin.2.2; subst e1; subst e2; have px : (0 ≤ x) = True := eq_true hin.1; have qx1 : (x < (l0_1.length : Int)) = True := eq_true hin.2.1; have qx2 : (x < (l0_2.length : Int)) = True := eq_true hin.2.2) | ((with_reducible refine gate_dst (N := 43) rfl ?_); refine Kd.R_lit (Kd.int .u8) _ 5 ?hg (N := 43) ?hd (xs := ([43, 117] : List Int)) (inner := [.int .u8 43, .int .u8 117]) (ok := fun _ => True) (okp := fun _ => True) ?hr ?hp (fun _ hk => hk) trivial (Below.refl _ _) (Nat.le_refl _) (by simp) ?_; (case hd => rfl); (case hg => rfl); (case hr => first | (go_simp; done) | (go_simp; rfl)); (case hp => exact Kd.reps_scalar (enc := Value.int .u8) ([43, 117] : List Int)); intro v6 w6 ho6 hb hg_ hnew_; have n0_ := Aside0.mk (Kd.R_below HO.out hb); have n1_ := Aside0.mk (blk_below BK.out hb); have n2_ := Aside0.mk (below_step HB.out hb); have hown6 := hown5.kept hg_ (by simp); have H6 := Aside0.mk ho6; clear HO BK HB hown5 hnew_ hb ho6 hg_; have HO := n0_; have BK := n1_; have HB := n2_; clear n0_ n1_ n2_; obtain ⟨A6, c6, e6⟩ := Kd.R_slice H6.out; subst e6) | ((with_reducible refine gate_builtin (b := .append) (xs := #[.tmp 40, .tmp 43]) rfl ?_); at_builtin; refine Kd.R_append_row (Value.int .u8) (0 : Int) (w0 := w) w.heap.size rfl (.tmp 40) (.tmp 43) 113 5 (.int .u8 0) 1 rfl Try.underlying113 info5 rfl (by omega) v5 (gtF l0_0 l0_1 l0_2 k ++ [(97 + x) % 256]) [43, 117] A6 2 c6 (fun _ => True) rfl rfl (fun _ _ => trivial) HO.out (Kd.R_reads' H6.out).2.2 HB.out HB.out.size (by have := HGL.out; simp; omega) ?_; intro v7 w7 ho hb hg hat; have n0_ := Aside0.mk ho; have n1_ := Aside0.mk hb; have n2_ := Aside0.mk (blk_grown BK.out hg (Kd.R_ne HO.out BK.out (by decide))); have hown7 := hown6.kept hg (map_ne_row hown6 HO.out); clear HO HB BK hown6; have HO := n0_; have HB := n1_; have BK := n2_; clear n0_ n1_ n2_ ho hb hg hat) | (at_mapUpdate; refine wpList_mapUpdate_own _ rfl _ _ _ 114 rfl 2 4 law2 Try.underlying114 _ w3.heap.size k _ rfl hown7 (by have := HK20.out; unfold maxLen; omega) _ _ _ rfl rfl hkey _ [] (plainElem_bool Try.underlying4 true) ?_; intro w9 hown9 hg9; have n0_ := Aside0.mk (row_map hown7 hg9 HO.out); have n1_ := Aside0.mk (blk_grown BK.out hg9 (fun e_ => map_ne_blk hown7 BK.out (by injection e_ with e_; exact e_.symm))); have n2_ := Aside0.mk (pw_below_grown HB.out (some w3.heap.size) HB.out.size hg9 (fun k_ e_ => by cases e_; exact HBG.out)); have n3_ := Aside0.mk (show SeenAt w9 w3.heap.size (k + 1) (l0_0.take (k + 1)) from ⟨_, hown9, by rw [HTK.out]; exact HSN.out.step hown7.isMap⟩); clear HO HB BK hown9 hg9; have HO := n0_; have BK := n1_; have HB := n2_; have HM := n3_; clear n0_ n1_ n2_ n3_))
              go_roundg k1
              case measure => omega
              case rel => exact ⟨k + 1, (by first | rfl | (simp; done) | (simp [hw1]; done)), ⟨by have := HCK.out; omega⟩, ⟨by have := HK.out; omega⟩, ⟨by rw [HGS.out]; unfold gtN; rw [if_neg (by rw [hcc]; decide)]; rw [if_neg (show ¬ rd l0_2 x < 0 by omega)]; rw [if_neg hh]; have h9 := HO.out; rw [List.append_assoc] at h9; exact h9⟩, HM, BK, HB⟩
      · have c1 : decide ((k : Int) < (N : Int)) = false := decide_eq_false (by omega)
        have c2 : decide (k < N) = false := decide_eq_false c
        have hk : k = l0_0.length := by have := HKN.out; have := HN.out; omega
        subst hk
        have hcv := own_string (P := Try.prog) Try.underlying113 Try.underlying5 Try.underlying9 (Kd.own_of_R HO.out)
        go_wp2
        go_ret
        exact ⟨rfl, HB.out⟩
  · rw [if_neg hok] at h
    cases h

end Go.Proofs.Ytckmncebedhgeaa.G
