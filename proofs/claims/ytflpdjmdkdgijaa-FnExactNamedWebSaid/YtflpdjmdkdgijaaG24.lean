-- Written by the session's program mk.py (which runs the kit's print.py over functions and over contracts given by hand).
import Derived.Test.YtflpdjmdkdgijaaG0
import Derived.Test.YtflpdjmdkdgijaaG23
import Derived.Test.YtflpdjmdkdgijaaPlainN
namespace Go.Proofs.Ytflpdjmdkdgijaa.G
open Go.RowKit Go.Maps Go.Proofs.YtflpdjmdkdgijaaW.PrintWords Go.Proofs.YtflpdjmdkdgijaaW.PrintLast Go.Proofs.YtflpdjmdkdgijaaW.PrintMore
attribute [local go_sem] max2_int min2_int max_two min_two max_three min_three max_four min_four   -- for this text's walks alone
set_option linter.unusedVariables false
set_option linter.unusedSimpArgs false

open Go.Proofs.Ytflpdjmdkdgijaa.Plain
/-! ### impl_named: function 24, by hand -/
theorem size_len (bs : ByteArray) : bs.size = bs.data.toList.length := by rw [Array.length_toList]; rfl
theorem toList_loop (bs : ByteArray) : ∀ (d i : Nat) (r : List UInt8), bs.size - i = d → ByteArray.toList.loop bs i r = r.reverse ++ bs.data.toList.drop i
  | 0, i, r, h => by
    unfold ByteArray.toList.loop
    have : ¬ i < bs.size := by omega
    rw [if_neg this, List.drop_eq_nil_of_le (by rw [← size_len]; omega), List.append_nil]
  | d + 1, i, r, h => by
    unfold ByteArray.toList.loop
    have hi : i < bs.size := by omega
    rw [if_pos hi, toList_loop bs d (i + 1) _ (by omega)]
    have hi2 : i < bs.data.toList.length := by rw [← size_len]; exact hi
    have e : bs.get! i = bs.data.toList[i] := by
      show bs.data[i]! = _
      rw [getElem!_pos bs.data i hi]
      exact Array.getElem_toList ..
    rw [List.drop_eq_getElem_cons hi2, e, List.reverse_cons, List.append_assoc]
    rfl
theorem toList_data (bs : ByteArray) : bs.toList = bs.data.toList := by
  unfold ByteArray.toList
  rw [toList_loop bs _ 0 [] rfl]
  rfl
abbrev WebP := List Int × List (List Int)
/-- The zero of the map's element. -/
def zW : Value := .agg #[.slice none 0 0, .slice none 0 0]
theorem zero_W (w : World) : (zeroValue 25).run Try.prog w = .ok zW w := by kernel_rfl
/-- A web in memory: its legs and its forks, apart, none the map's own block. -/
def WebAt (w : World) (base b : Nat) (v : Value) (p : WebP) : Prop :=
  ∃ v0 v1 : Value, v = .agg #[v0, v1] ∧ Kd.R (Kd.int .i64) 2 w base (fun k => k ≠ b) v0 p.1 ∧ Kd.S (Kd.slice 2 (Kd.int .i64)) 22 w base (fun k => some k ≠ v0.ownBlock ∧ k ≠ b) v1 p.2
theorem WebAt.below {w w1 : World} {base b : Nat} {v : Value} {p : WebP} (h : WebAt w base b v p) (hb : Below w.heap.size w w1) : WebAt w1 base b v p := by
  obtain ⟨v0, v1, e, h0, h1⟩ := h
  exact ⟨v0, v1, e, Kd.R_below h0 hb, Kd.S_below h1 hb⟩
theorem WebAt.grown {w w1 : World} {base b : Nat} {v : Value} {p : WebP} (h : WebAt w base b v p) (hg : w.grownBy w1 (some b)) : WebAt w1 base b v p := by
  obtain ⟨v0, v1, e, h0, h1⟩ := h
  exact ⟨v0, v1, e, Kd.R_grown h0 hg (fun k hk e => hk (by injection e)), Kd.S_grown h1 hg (fun k hk e => hk.2 (by injection e))⟩
/-- A map with webs: key by key what it holds. -/
def WM (w : World) (base b n : Nat) (g : Lit → Option WebP) : Prop :=
  ∃ (D : DataW Value) (f : Lit → Option Value), base ≤ b ∧ w.ownsMap Try.prog 9 heldR b n D ∧ HoldsM D zW f ∧ ∀ kl, (∀ v, f kl = some v → ∃ p, g kl = some p ∧ WebAt w base b v p) ∧ (f kl = none → g kl = none)
theorem WM.below {w w1 : World} {base b n : Nat} {g : Lit → Option WebP} (h : WM w base b n g) (hb : Below w.heap.size w w1) : WM w1 base b n g := by
  obtain ⟨D, f, h0, h1, h2, h3⟩ := h
  exact ⟨D, f, h0, h1.kept ⟨hb.os, hb.tape, hb.output, hb.size, fun k hk _ => hb.block k hk⟩ (by simp : some b ≠ none), h2, fun kl => ⟨fun v hv => by
    obtain ⟨p, e, hp⟩ := (h3 kl).1 v hv
    exact ⟨p, e, hp.below hb⟩, (h3 kl).2⟩⟩
theorem WM.lt {w : World} {base b n : Nat} {g : Lit → Option WebP} (h : WM w base b n g) : b < w.heap.size := by
  obtain ⟨D, f, h0, h1, _⟩ := h
  exact h1.lt
theorem WM.le {w : World} {base b n : Nat} {g : Lit → Option WebP} (h : WM w base b n g) : base ≤ b := by
  obtain ⟨D, f, h0, h1, _⟩ := h
  exact h0
theorem WM.made (w : World) : WM (w.alloc (.map #[] 0)) w.heap.size w.heap.size 0 (fun _ => none) :=
  ⟨.map [], fun _ => none, Nat.le_refl _, World.ownsMap_made _ _ _ _, HoldsM.none _, fun kl => ⟨fun v hv => (by cases hv), fun _ => rfl⟩⟩
open Classical in
noncomputable def updG (g : Lit → Option WebP) (kl : Lit) (p : WebP) : Lit → Option WebP := fun x => if x = kl then some p else g x
section
variable {ops : Array Oper} {rest : List Oper} {o : Oper} {a : Act} {Q : Exit → Act → World → Prop}
theorem leg_lit {W w0 : World} {b n : Nat} {g : Lit → Option WebP} {N : Tmp} (xs : List Int) (hM : WM W w0.heap.size b n g) (HB : Below w0.heap.size w0 W) (hd : o.dst = some N) (hg : o.guard = none)
    (hr : (execOp a.eval o).run Try.prog W = .ok (.value (.slice (some ⟨W.heap.size, 0, none⟩) xs.length xs.length)) (W.alloc (.cells (xs.map (Value.int .i64)).toArray 2))) (hm : xs.length ≤ 9223372036854775807)
    (h : ∀ A c w1, Kd.R (Kd.int .i64) 2 w1 w0.heap.size (fun k => W.heap.size ≤ k ∧ k < w1.heap.size ∧ k ≠ b) (.slice A xs.length c) xs → Below W.heap.size W w1 → Below w0.heap.size w0 w1 → WM w1 w0.heap.size b n g → W.heap.size < w1.heap.size → wpList Try.prog ops Q rest (a.put o.dst (.slice A xs.length c)) w1) : wpList Try.prog ops Q (o :: rest) a W := by
  have hlt := hM.lt
  have hle := hM.le
  refine Kd.R_lit (Kd.int .i64) W.heap.size 2 hg hd (w0 := W) (xs := xs) (inner := xs.map (Value.int .i64)) (ok := fun _ => True) (okp := fun _ => True) hr ?_ (fun _ hk => hk) trivial (Below.refl _ _) (Nat.le_refl _) hm ?_
  · refine ⟨by show _ = xs.length * 1; simp, fun j p hj => ?_⟩
    obtain ⟨hl, he⟩ := List.getElem?_eq_some_iff.1 hj
    have h1 : (List.drop (j * 1) (xs.map (Value.int .i64))).take 1 = [Value.int .i64 p] := by
      rw [Nat.mul_one, List.drop_eq_getElem_cons (by simpa using hl)]
      simp [he]
    exact h1
  · intro v1 w1 hR hb _ hown
    obtain ⟨A, c, rfl⟩ := Kd.R_slice hR
    have hR2 := Kd.R_bound hR
    obtain ⟨bb, hb1, hb2⟩ := hown
    have hlt2 : W.heap.size < w1.heap.size := Nat.lt_of_le_of_lt hb2 (Kd.R_lt hR bb hb1)
    exact h A c w1 (Kd.R_lower (Kd.R_mono hR2 (fun k hk => ⟨hk.2.1, hk.2.2.1, by have := hk.2.1; omega⟩)) (by omega)) hb (below_step HB hb) (hM.below hb) hlt2
theorem rows_lit {W w0 : World} {b n : Nat} {g : Lit → Option WebP} {N : Tmp} (xs : List (List Int)) (inner : List Value) {a' b' c e : Nat} (hM : WM W w0.heap.size b n g) (HB : Below w0.heap.size w0 W) (hd : o.dst = some N) (hg : o.guard = none)
    (hr : (execOp a.eval o).run Try.prog W = .ok (.value (.slice (some ⟨W.heap.size, 0, none⟩) xs.length xs.length)) (W.alloc (.cells inner.toArray 22))) (hm : xs.length ≤ 3) (hl : inner.length = xs.length)
    (h0 : ∀ x, xs[0]? = some x → ∃ v, inner[0]? = some v ∧ Kd.R (Kd.int .i64) 2 W w0.heap.size (fun k => a' ≤ k ∧ k < b' ∧ k ≠ b) v x)
    (h1 : ∀ x, xs[1]? = some x → ∃ v, inner[1]? = some v ∧ Kd.R (Kd.int .i64) 2 W w0.heap.size (fun k => b' ≤ k ∧ k < c ∧ k ≠ b) v x)
    (h2 : ∀ x, xs[2]? = some x → ∃ v, inner[2]? = some v ∧ Kd.R (Kd.int .i64) 2 W w0.heap.size (fun k => c ≤ k ∧ k < e ∧ k ≠ b) v x)
    (hs : a' ≤ b' ∧ b' ≤ c ∧ c ≤ e ∧ e ≤ W.heap.size)
    (h : ∀ A c2 w1, Kd.S (Kd.slice 2 (Kd.int .i64)) 22 w1 w0.heap.size (fun k => a' ≤ k ∧ k ≠ b) (.slice A xs.length c2) xs → Below W.heap.size W w1 → Below w0.heap.size w0 w1 → WM w1 w0.heap.size b n g → wpList Try.prog ops Q rest (a.put o.dst (.slice A xs.length c2)) w1) : wpList Try.prog ops Q (o :: rest) a W := by
  have hlt := hM.lt
  have hle := hM.le
  have hcell : ∀ (j : Nat) (v : Value), inner[j]? = some v → (inner.drop (j * (Kd.slice 2 (Kd.int .i64)).sz)).take (Kd.slice 2 (Kd.int .i64)).sz = [v] := fun j v hv => by
    obtain ⟨hl, he⟩ := List.getElem?_eq_some_iff.1 hv
    show (inner.drop (j * 1)).take 1 = [v]
    rw [Nat.mul_one, List.drop_eq_getElem_cons hl]
    simp [he]
  refine Kd.S_lits (Kd.slice 2 (Kd.int .i64)) w0.heap.size 22 hg hd (w0 := W) (xs := xs) (inner := inner) (ok := fun k => a' ≤ k ∧ k ≠ b)
    (fun j k => match j with | 0 => a' ≤ k ∧ k < b' ∧ k ≠ b | 1 => b' ≤ k ∧ k < c ∧ k ≠ b | 2 => c ≤ k ∧ k < e ∧ k ≠ b | _ => False) hr (by rw [hl]; show _ = xs.length * 1; omega) ?_ ?_ ?_ ⟨by omega, by omega⟩ (Below.refl _ _) (by have := HB.size; omega) (by omega) ?_
  · intro j x hx
    match j with
    | 0 =>
      obtain ⟨v, hv, hR⟩ := h0 x hx
      rw [hcell 0 v hv]
      exact ⟨v, rfl, hR⟩
    | 1 =>
      obtain ⟨v, hv, hR⟩ := h1 x hx
      rw [hcell 1 v hv]
      exact ⟨v, rfl, hR⟩
    | 2 =>
      obtain ⟨v, hv, hR⟩ := h2 x hx
      rw [hcell 2 v hv]
      exact ⟨v, rfl, hR⟩
    | j + 3 =>
      rw [List.getElem?_eq_none (by omega)] at hx
      cases hx
  · intro i j k hi hj
    match i, j with
    | 0, 0 => rfl
    | 1, 1 => rfl
    | 2, 2 => rfl
    | 0, 1 => simp only at hi hj; omega
    | 0, 2 => simp only at hi hj; omega
    | 1, 0 => simp only at hi hj; omega
    | 1, 2 => simp only at hi hj; omega
    | 2, 0 => simp only at hi hj; omega
    | 2, 1 => simp only at hi hj; omega
    | i + 3, _ => exact hi.elim
    | 0, j + 3 => exact hj.elim
    | 1, j + 3 => exact hj.elim
    | 2, j + 3 => exact hj.elim
  · intro j k hj
    match j with
    | 0 => simp only at hj; omega
    | 1 => simp only at hj; omega
    | 2 => simp only at hj; omega
    | j + 3 => exact hj.elim
  · intro v1 w1 hS hb hgr _
    have hb2 : Below W.heap.size W w1 := ⟨hgr.os, hgr.tape, hgr.output, hgr.size, fun k hk => hgr.block k hk (by simp)⟩
    obtain ⟨A, c2, rfl⟩ := Kd.S_slice hS
    exact h A c2 w1 hS hb2 (below_step HB hb2) (hM.below hb2)
theorem web_mk {W w0 : World} {b lo hi : Nat} {v0 v1 : Value} {xs : List Int} {ys : List (List Int)} (h0 : Kd.R (Kd.int .i64) 2 W w0.heap.size (fun k => lo ≤ k ∧ k < hi ∧ k ≠ b) v0 xs) (h1 : Kd.S (Kd.slice 2 (Kd.int .i64)) 22 W w0.heap.size (fun k => hi ≤ k ∧ k ≠ b) v1 ys) : WebAt W w0.heap.size b (.agg #[v0, v1]) (xs, ys) :=
  ⟨v0, v1, rfl, Kd.R_mono h0 (fun k hk => hk.2.2), Kd.S_mono h1 (fun k hk => ⟨fun e => by have := (h0.1 k e.symm).2.1; have := hk.1; omega, hk.2⟩)⟩
theorem web_mk0 {W w0 : World} {b lo hi : Nat} {v0 : Value} {xs : List Int} (h0 : Kd.R (Kd.int .i64) 2 W w0.heap.size (fun k => lo ≤ k ∧ k < hi ∧ k ≠ b) v0 xs) : WebAt W w0.heap.size b (.agg #[v0, .slice none 0 0]) (xs, []) :=
  ⟨v0, _, rfl, Kd.R_mono h0 (fun k hk => hk.2.2), Kd.S_nil _ _ _ _ _⟩
theorem web_put {W w0 : World} {b n : Nat} {g : Lit → Option WebP} {K : ByteArray} {V : Value} {p : WebP} (hM : WM W w0.heap.size b n g) (HB : Below w0.heap.size w0 W) (hg : o.guard = none) (m v : Operand)
    (hop : o.op = Op.insert 43 m (.const (.string K)) v ∨ o.op = Op.mapUpdate 43 m (.const (.string K)) v) (hm : a.eval m = .map (some b)) (hv : a.eval v = V) (hk : K.size < maxLen) (hw : WebAt W w0.heap.size b V p) (hn : n < maxLen)
    (h : ∀ w1, WM w1 w0.heap.size b (n + 1) (updG g (.string K.data.toList) p) → Below w0.heap.size w0 w1 → wpList Try.prog ops Q rest (a.put o.dst undef) w1) : wpList Try.prog ops Q (o :: rest) a W := by
  obtain ⟨D, f, m0, m1, m2, m3⟩ := hM
  refine wpList_insert_held W hg m (.const (.string K)) v 43 hop 9 25 (Maps.string_keyed Try.underlying9) Try.underlying43 b n D hm m1 m2 hn (.string K) V (.string K.data.toList) rfl hv (WideMaps.keyOf_string_mk Try.underlying9 (by omega)) ?_
  intro w1 D' r1 r2 r3
  refine h w1 ⟨D', _, m0, r1, r2, fun kl => ?_⟩ ⟨r3.os.trans HB.os, r3.tape.trans HB.tape, r3.output.trans HB.output, Nat.le_trans HB.size r3.size, fun k hk => (r3.block k (Nat.lt_of_lt_of_le hk HB.size) (fun e => by injection e; omega)).trans (HB.block k hk)⟩
  by_cases e : kl = .string K.data.toList
  · subst e
    rw [updM_same]
    unfold updG
    rw [if_pos rfl]
    exact ⟨fun u hu => ⟨p, rfl, by injection hu with hu; rw [← hu]; exact hw.grown r3⟩, fun hn => by cases hn⟩
  · rw [updM_other _ _ e]
    unfold updG
    rw [if_neg e]
    exact ⟨fun u hu => by
      obtain ⟨q, hq, hW⟩ := (m3 kl).1 u hu
      exact ⟨q, hq, hW.grown r3⟩, (m3 kl).2⟩
end
noncomputable def namedG : Lit → Option WebP := updG (updG (updG (updG (updG (updG (fun _ => none) (.string ([99, 104, 111, 114, 100] : List UInt8)) (([0, 0] : List Int), ([] : List (List Int)))) (.string ([102, 111, 114, 107] : List UInt8)) (([0, 1, 2] : List Int), ([[0, 1, 2]] : List (List Int)))) (.string ([114, 105, 110, 103] : List UInt8)) (([0, 1] : List Int), ([[0, 2, 3], [1, 3, 2]] : List (List Int)))) (.string ([98, 114, 105, 100, 103, 101] : List UInt8)) (([0, 1, 2, 3] : List Int), ([[0, 1, 4], [4, 2, 3]] : List (List Int)))) (.string ([119, 104, 101, 101, 108] : List UInt8)) (([0, 1, 2] : List Int), ([[0, 3, 5], [1, 4, 3], [2, 5, 4]] : List (List Int)))) (.string ([99, 111, 109, 98] : List UInt8)) (([0, 1, 2, 3, 4] : List Int), ([[0, 1, 5], [5, 2, 6], [6, 3, 4]] : List (List Int)))
set_option maxHeartbeats 16000000 in
set_option maxRecDepth 100000 in
theorem impl_named.calls (w : World) :
    Calls Try.prog 24 #[] w fun e w' => ∃ b, e = .returned (.map (some b)) ∧ WM w' w.heap.size b 6 namedG ∧ Below w.heap.size w w' := by
  have hmm := @run_makeMap Try.prog
  have hu := Try.underlying25
  have HM := Aside0.mk (WM.made w)
  have HB := Aside0.mk (below_alloc (Below.refl w.heap.size w) (.map #[] 0))

  go_enter Try.func24, Try.ntmps24
  go_wp2_with (first | ((with_reducible refine gate_dst (N := 2) rfl ?_); refine leg_lit (w0 := w) (b := w.heap.size) (n := 0) (g := _) (N := 2) ([0, 0] : List Int) HM.out HB.out ?hd ?hg ?hr (by simp) ?_; (case hd => rfl); (case hg => rfl); (case hr => first | (go_simp; done) | (go_simp; rfl)); intro A_g0 c_g0 w_g0 hr_ hbl_ hb_ hm_ hlt_; clear HM HB; have HM := Aside0.mk hm_; have HB := Aside0.mk hb_; have HR_g0 := Aside0.mk hr_; have HL_g0 := Aside0.mk hlt_; clear hr_ hbl_ hb_ hm_ hlt_) | (refine web_put (w0 := w) (b := w.heap.size) (n := 0) (g := _) (K := { data := #[99, 104, 111, 114, 100] }) (V := .agg #[.slice A_g0 (List.length ([0, 0] : List Int)) c_g0, .slice none 0 0]) (p := (([0, 0] : List Int), ([] : List (List Int)))) HM.out HB.out ?hg (.tmp 1) (.tmp 3) ?hop ?hm ?hv ?hk ?hw (by decide) ?_; (case hg => rfl); (case hop => exact Or.inl rfl); (case hm => first | (go_simp; done) | (go_simp; rfl)); (case hv => first | (go_simp; done) | (go_simp; rfl)); (case hk => first | decide | rfl); (case hw => exact web_mk0 HR_g0.out); intro w_i0 hm_ hb_; clear HM HB HR_g0; have HM := Aside0.mk hm_; have HB := Aside0.mk hb_; clear hm_ hb_) | ((with_reducible refine gate_dst (N := 4) rfl ?_); refine leg_lit (w0 := w) (b := w.heap.size) (n := 1) (g := _) (N := 4) ([0, 1, 2] : List Int) HM.out HB.out ?hd ?hg ?hr (by simp) ?_; (case hd => rfl); (case hg => rfl); (case hr => first | (go_simp; done) | (go_simp; rfl)); intro A_g1 c_g1 w_g1 hr_ hbl_ hb_ hm_ hlt_; clear HM HB; have HM := Aside0.mk hm_; have HB := Aside0.mk hb_; have HR_g1 := Aside0.mk hr_; have HL_g1 := Aside0.mk hlt_; clear hr_ hbl_ hb_ hm_ hlt_) | ((with_reducible refine gate_dst (N := 5) rfl ?_); refine leg_lit (w0 := w) (b := w.heap.size) (n := 1) (g := _) (N := 5) ([0, 1, 2] : List Int) HM.out HB.out ?hd ?hg ?hr (by simp) ?_; (case hd => rfl); (case hg => rfl); (case hr => first | (go_simp; done) | (go_simp; rfl)); intro A_r1_0 c_r1_0 w_r1_0 hr_ hbl_ hb_ hm_ hlt_; clear HM HB; have HM := Aside0.mk hm_; have HB := Aside0.mk hb_; have HR_r1_0 := Aside0.mk hr_; have HL_r1_0 := Aside0.mk hlt_; have n_ := Aside0.mk (Kd.R_below HR_g1.out hbl_); clear HR_g1; have HR_g1 := n_; clear n_; clear hr_ hbl_ hb_ hm_ hlt_) | ((with_reducible refine gate_dst (N := 6) rfl ?_); refine rows_lit (w0 := w) (b := w.heap.size) (n := 1) (g := _) (N := 6) ([([0, 1, 2] : List Int)] : List (List Int)) [.slice A_r1_0 (List.length ([0, 1, 2] : List Int)) c_r1_0] (a' := w_g1.heap.size) (b' := w_r1_0.heap.size) (c := w_r1_0.heap.size) (e := w_r1_0.heap.size) HM.out HB.out ?hd ?hg ?hr (by simp) rfl (fun x hx => by (have hx : ([0, 1, 2] : List Int) = x := by simpa using hx); subst hx; exact ⟨_, rfl, HR_r1_0.out⟩) (fun x hx => by simp at hx) (fun x hx => by simp at hx) ⟨Nat.le_of_lt HL_r1_0.out, Nat.le_refl _, Nat.le_refl _, Nat.le_refl _⟩ ?_; (case hd => rfl); (case hg => rfl); (case hr => first | (go_simp; done) | (go_simp; rfl)); intro AF_1 CF_1 w_s1 hr_ hbl_ hb_ hm_; clear HM HB; have HM := Aside0.mk hm_; have HB := Aside0.mk hb_; have HS_1 := Aside0.mk hr_; have n_ := Aside0.mk (Kd.R_below HR_g1.out hbl_); clear HR_g1; have HR_g1 := n_; clear n_; clear hr_ hbl_ hb_ hm_) | (refine web_put (w0 := w) (b := w.heap.size) (n := 1) (g := _) (K := { data := #[102, 111, 114, 107] }) (V := .agg #[.slice A_g1 (List.length ([0, 1, 2] : List Int)) c_g1, .slice AF_1 (List.length ([([0, 1, 2] : List Int)] : List (List Int))) CF_1]) (p := (([0, 1, 2] : List Int), ([([0, 1, 2] : List Int)] : List (List Int)))) HM.out HB.out ?hg (.tmp 1) (.tmp 7) ?hop ?hm ?hv ?hk ?hw (by decide) ?_; (case hg => rfl); (case hop => exact Or.inl rfl); (case hm => first | (go_simp; done) | (go_simp; rfl)); (case hv => first | (go_simp; done) | (go_simp; rfl)); (case hk => first | decide | rfl); (case hw => exact web_mk HR_g1.out HS_1.out); intro w_i1 hm_ hb_; clear HM HB HR_g1 HS_1; have HM := Aside0.mk hm_; have HB := Aside0.mk hb_; clear hm_ hb_) | ((with_reducible refine gate_dst (N := 8) rfl ?_); refine leg_lit (w0 := w) (b := w.heap.size) (n := 2) (g := _) (N := 8) ([0, 1] : List Int) HM.out HB.out ?hd ?hg ?hr (by simp) ?_; (case hd => rfl); (case hg => rfl); (case hr => first | (go_simp; done) | (go_simp; rfl)); intro A_g2 c_g2 w_g2 hr_ hbl_ hb_ hm_ hlt_; clear HM HB; have HM := Aside0.mk hm_; have HB := Aside0.mk hb_; have HR_g2 := Aside0.mk hr_; have HL_g2 := Aside0.mk hlt_; clear hr_ hbl_ hb_ hm_ hlt_) | ((with_reducible refine gate_dst (N := 9) rfl ?_); refine leg_lit (w0 := w) (b := w.heap.size) (n := 2) (g := _) (N := 9) ([0, 2, 3] : List Int) HM.out HB.out ?hd ?hg ?hr (by simp) ?_; (case hd => rfl); (case hg => rfl); (case hr => first | (go_simp; done) | (go_simp; rfl)); intro A_r2_0 c_r2_0 w_r2_0 hr_ hbl_ hb_ hm_ hlt_; clear HM HB; have HM := Aside0.mk hm_; have HB := Aside0.mk hb_; have HR_r2_0 := Aside0.mk hr_; have HL_r2_0 := Aside0.mk hlt_; have n_ := Aside0.mk (Kd.R_below HR_g2.out hbl_); clear HR_g2; have HR_g2 := n_; clear n_; clear hr_ hbl_ hb_ hm_ hlt_) | ((with_reducible refine gate_dst (N := 10) rfl ?_); refine leg_lit (w0 := w) (b := w.heap.size) (n := 2) (g := _) (N := 10) ([1, 3, 2] : List Int) HM.out HB.out ?hd ?hg ?hr (by simp) ?_; (case hd => rfl); (case hg => rfl); (case hr => first | (go_simp; done) | (go_simp; rfl)); intro A_r2_1 c_r2_1 w_r2_1 hr_ hbl_ hb_ hm_ hlt_; clear HM HB; have HM := Aside0.mk hm_; have HB := Aside0.mk hb_; have HR_r2_1 := Aside0.mk hr_; have HL_r2_1 := Aside0.mk hlt_; have n_ := Aside0.mk (Kd.R_below HR_g2.out hbl_); clear HR_g2; have HR_g2 := n_; clear n_; have n_ := Aside0.mk (Kd.R_below HR_r2_0.out hbl_); clear HR_r2_0; have HR_r2_0 := n_; clear n_; clear hr_ hbl_ hb_ hm_ hlt_) | ((with_reducible refine gate_dst (N := 11) rfl ?_); refine rows_lit (w0 := w) (b := w.heap.size) (n := 2) (g := _) (N := 11) ([([0, 2, 3] : List Int), ([1, 3, 2] : List Int)] : List (List Int)) [.slice A_r2_0 (List.length ([0, 2, 3] : List Int)) c_r2_0, .slice A_r2_1 (List.length ([1, 3, 2] : List Int)) c_r2_1] (a' := w_g2.heap.size) (b' := w_r2_0.heap.size) (c := w_r2_1.heap.size) (e := w_r2_1.heap.size) HM.out HB.out ?hd ?hg ?hr (by simp) rfl (fun x hx => by (have hx : ([0, 2, 3] : List Int) = x := by simpa using hx); subst hx; exact ⟨_, rfl, HR_r2_0.out⟩) (fun x hx => by (have hx : ([1, 3, 2] : List Int) = x := by simpa using hx); subst hx; exact ⟨_, rfl, HR_r2_1.out⟩) (fun x hx => by simp at hx) ⟨Nat.le_of_lt HL_r2_0.out, Nat.le_of_lt HL_r2_1.out, Nat.le_refl _, Nat.le_refl _⟩ ?_; (case hd => rfl); (case hg => rfl); (case hr => first | (go_simp; done) | (go_simp; rfl)); intro AF_2 CF_2 w_s2 hr_ hbl_ hb_ hm_; clear HM HB; have HM := Aside0.mk hm_; have HB := Aside0.mk hb_; have HS_2 := Aside0.mk hr_; have n_ := Aside0.mk (Kd.R_below HR_g2.out hbl_); clear HR_g2; have HR_g2 := n_; clear n_; clear hr_ hbl_ hb_ hm_) | (refine web_put (w0 := w) (b := w.heap.size) (n := 2) (g := _) (K := { data := #[114, 105, 110, 103] }) (V := .agg #[.slice A_g2 (List.length ([0, 1] : List Int)) c_g2, .slice AF_2 (List.length ([([0, 2, 3] : List Int), ([1, 3, 2] : List Int)] : List (List Int))) CF_2]) (p := (([0, 1] : List Int), ([([0, 2, 3] : List Int), ([1, 3, 2] : List Int)] : List (List Int)))) HM.out HB.out ?hg (.tmp 1) (.tmp 12) ?hop ?hm ?hv ?hk ?hw (by decide) ?_; (case hg => rfl); (case hop => exact Or.inl rfl); (case hm => first | (go_simp; done) | (go_simp; rfl)); (case hv => first | (go_simp; done) | (go_simp; rfl)); (case hk => first | decide | rfl); (case hw => exact web_mk HR_g2.out HS_2.out); intro w_i2 hm_ hb_; clear HM HB HR_g2 HS_2; have HM := Aside0.mk hm_; have HB := Aside0.mk hb_; clear hm_ hb_) | ((with_reducible refine gate_dst (N := 13) rfl ?_); refine leg_lit (w0 := w) (b := w.heap.size) (n := 3) (g := _) (N := 13) ([0, 1, 2, 3] : List Int) HM.out HB.out ?hd ?hg ?hr (by simp) ?_; (case hd => rfl); (case hg => rfl); (case hr => first | (go_simp; done) | (go_simp; rfl)); intro A_g3 c_g3 w_g3 hr_ hbl_ hb_ hm_ hlt_; clear HM HB; have HM := Aside0.mk hm_; have HB := Aside0.mk hb_; have HR_g3 := Aside0.mk hr_; have HL_g3 := Aside0.mk hlt_; clear hr_ hbl_ hb_ hm_ hlt_) | ((with_reducible refine gate_dst (N := 14) rfl ?_); refine leg_lit (w0 := w) (b := w.heap.size) (n := 3) (g := _) (N := 14) ([0, 1, 4] : List Int) HM.out HB.out ?hd ?hg ?hr (by simp) ?_; (case hd => rfl); (case hg => rfl); (case hr => first | (go_simp; done) | (go_simp; rfl)); intro A_r3_0 c_r3_0 w_r3_0 hr_ hbl_ hb_ hm_ hlt_; clear HM HB; have HM := Aside0.mk hm_; have HB := Aside0.mk hb_; have HR_r3_0 := Aside0.mk hr_; have HL_r3_0 := Aside0.mk hlt_; have n_ := Aside0.mk (Kd.R_below HR_g3.out hbl_); clear HR_g3; have HR_g3 := n_; clear n_; clear hr_ hbl_ hb_ hm_ hlt_) | ((with_reducible refine gate_dst (N := 15) rfl ?_); refine leg_lit (w0 := w) (b := w.heap.size) (n := 3) (g := _) (N := 15) ([4, 2, 3] : List Int) HM.out HB.out ?hd ?hg ?hr (by simp) ?_; (case hd => rfl); (case hg => rfl); (case hr => first | (go_simp; done) | (go_simp; rfl)); intro A_r3_1 c_r3_1 w_r3_1 hr_ hbl_ hb_ hm_ hlt_; clear HM HB; have HM := Aside0.mk hm_; have HB := Aside0.mk hb_; have HR_r3_1 := Aside0.mk hr_; have HL_r3_1 := Aside0.mk hlt_; have n_ := Aside0.mk (Kd.R_below HR_g3.out hbl_); clear HR_g3; have HR_g3 := n_; clear n_; have n_ := Aside0.mk (Kd.R_below HR_r3_0.out hbl_); clear HR_r3_0; have HR_r3_0 := n_; clear n_; clear hr_ hbl_ hb_ hm_ hlt_) | ((with_reducible refine gate_dst (N := 16) rfl ?_); refine rows_lit (w0 := w) (b := w.heap.size) (n := 3) (g := _) (N := 16) ([([0, 1, 4] : List Int), ([4, 2, 3] : List Int)] : List (List Int)) [.slice A_r3_0 (List.length ([0, 1, 4] : List Int)) c_r3_0, .slice A_r3_1 (List.length ([4, 2, 3] : List Int)) c_r3_1] (a' := w_g3.heap.size) (b' := w_r3_0.heap.size) (c := w_r3_1.heap.size) (e := w_r3_1.heap.size) HM.out HB.out ?hd ?hg ?hr (by simp) rfl (fun x hx => by (have hx : ([0, 1, 4] : List Int) = x := by simpa using hx); subst hx; exact ⟨_, rfl, HR_r3_0.out⟩) (fun x hx => by (have hx : ([4, 2, 3] : List Int) = x := by simpa using hx); subst hx; exact ⟨_, rfl, HR_r3_1.out⟩) (fun x hx => by simp at hx) ⟨Nat.le_of_lt HL_r3_0.out, Nat.le_of_lt HL_r3_1.out, Nat.le_refl _, Nat.le_refl _⟩ ?_; (case hd => rfl); (case hg => rfl); (case hr => first | (go_simp; done) | (go_simp; rfl)); intro AF_3 CF_3 w_s3 hr_ hbl_ hb_ hm_; clear HM HB; have HM := Aside0.mk hm_; have HB := Aside0.mk hb_; have HS_3 := Aside0.mk hr_; have n_ := Aside0.mk (Kd.R_below HR_g3.out hbl_); clear HR_g3; have HR_g3 := n_; clear n_; clear hr_ hbl_ hb_ hm_) | (refine web_put (w0 := w) (b := w.heap.size) (n := 3) (g := _) (K := { data := #[98, 114, 105, 100, 103, 101] }) (V := .agg #[.slice A_g3 (List.length ([0, 1, 2, 3] : List Int)) c_g3, .slice AF_3 (List.length ([([0, 1, 4] : List Int), ([4, 2, 3] : List Int)] : List (List Int))) CF_3]) (p := (([0, 1, 2, 3] : List Int), ([([0, 1, 4] : List Int), ([4, 2, 3] : List Int)] : List (List Int)))) HM.out HB.out ?hg (.tmp 1) (.tmp 17) ?hop ?hm ?hv ?hk ?hw (by decide) ?_; (case hg => rfl); (case hop => exact Or.inl rfl); (case hm => first | (go_simp; done) | (go_simp; rfl)); (case hv => first | (go_simp; done) | (go_simp; rfl)); (case hk => first | decide | rfl); (case hw => exact web_mk HR_g3.out HS_3.out); intro w_i3 hm_ hb_; clear HM HB HR_g3 HS_3; have HM := Aside0.mk hm_; have HB := Aside0.mk hb_; clear hm_ hb_) | ((with_reducible refine gate_dst (N := 18) rfl ?_); refine leg_lit (w0 := w) (b := w.heap.size) (n := 4) (g := _) (N := 18) ([0, 1, 2] : List Int) HM.out HB.out ?hd ?hg ?hr (by simp) ?_; (case hd => rfl); (case hg => rfl); (case hr => first | (go_simp; done) | (go_simp; rfl)); intro A_g4 c_g4 w_g4 hr_ hbl_ hb_ hm_ hlt_; clear HM HB; have HM := Aside0.mk hm_; have HB := Aside0.mk hb_; have HR_g4 := Aside0.mk hr_; have HL_g4 := Aside0.mk hlt_; clear hr_ hbl_ hb_ hm_ hlt_) | ((with_reducible refine gate_dst (N := 19) rfl ?_); refine leg_lit (w0 := w) (b := w.heap.size) (n := 4) (g := _) (N := 19) ([0, 3, 5] : List Int) HM.out HB.out ?hd ?hg ?hr (by simp) ?_; (case hd => rfl); (case hg => rfl); (case hr => first | (go_simp; done) | (go_simp; rfl)); intro A_r4_0 c_r4_0 w_r4_0 hr_ hbl_ hb_ hm_ hlt_; clear HM HB; have HM := Aside0.mk hm_; have HB := Aside0.mk hb_; have HR_r4_0 := Aside0.mk hr_; have HL_r4_0 := Aside0.mk hlt_; have n_ := Aside0.mk (Kd.R_below HR_g4.out hbl_); clear HR_g4; have HR_g4 := n_; clear n_; clear hr_ hbl_ hb_ hm_ hlt_) | ((with_reducible refine gate_dst (N := 20) rfl ?_); refine leg_lit (w0 := w) (b := w.heap.size) (n := 4) (g := _) (N := 20) ([1, 4, 3] : List Int) HM.out HB.out ?hd ?hg ?hr (by simp) ?_; (case hd => rfl); (case hg => rfl); (case hr => first | (go_simp; done) | (go_simp; rfl)); intro A_r4_1 c_r4_1 w_r4_1 hr_ hbl_ hb_ hm_ hlt_; clear HM HB; have HM := Aside0.mk hm_; have HB := Aside0.mk hb_; have HR_r4_1 := Aside0.mk hr_; have HL_r4_1 := Aside0.mk hlt_; have n_ := Aside0.mk (Kd.R_below HR_g4.out hbl_); clear HR_g4; have HR_g4 := n_; clear n_; have n_ := Aside0.mk (Kd.R_below HR_r4_0.out hbl_); clear HR_r4_0; have HR_r4_0 := n_; clear n_; clear hr_ hbl_ hb_ hm_ hlt_) | ((with_reducible refine gate_dst (N := 21) rfl ?_); refine leg_lit (w0 := w) (b := w.heap.size) (n := 4) (g := _) (N := 21) ([2, 5, 4] : List Int) HM.out HB.out ?hd ?hg ?hr (by simp) ?_; (case hd => rfl); (case hg => rfl); (case hr => first | (go_simp; done) | (go_simp; rfl)); intro A_r4_2 c_r4_2 w_r4_2 hr_ hbl_ hb_ hm_ hlt_; clear HM HB; have HM := Aside0.mk hm_; have HB := Aside0.mk hb_; have HR_r4_2 := Aside0.mk hr_; have HL_r4_2 := Aside0.mk hlt_; have n_ := Aside0.mk (Kd.R_below HR_g4.out hbl_); clear HR_g4; have HR_g4 := n_; clear n_; have n_ := Aside0.mk (Kd.R_below HR_r4_0.out hbl_); clear HR_r4_0; have HR_r4_0 := n_; clear n_; have n_ := Aside0.mk (Kd.R_below HR_r4_1.out hbl_); clear HR_r4_1; have HR_r4_1 := n_; clear n_; clear hr_ hbl_ hb_ hm_ hlt_) | ((with_reducible refine gate_dst (N := 22) rfl ?_); refine rows_lit (w0 := w) (b := w.heap.size) (n := 4) (g := _) (N := 22) ([([0, 3, 5] : List Int), ([1, 4, 3] : List Int), ([2, 5, 4] : List Int)] : List (List Int)) [.slice A_r4_0 (List.length ([0, 3, 5] : List Int)) c_r4_0, .slice A_r4_1 (List.length ([1, 4, 3] : List Int)) c_r4_1, .slice A_r4_2 (List.length ([2, 5, 4] : List Int)) c_r4_2] (a' := w_g4.heap.size) (b' := w_r4_0.heap.size) (c := w_r4_1.heap.size) (e := w_r4_2.heap.size) HM.out HB.out ?hd ?hg ?hr (by simp) rfl (fun x hx => by (have hx : ([0, 3, 5] : List Int) = x := by simpa using hx); subst hx; exact ⟨_, rfl, HR_r4_0.out⟩) (fun x hx => by (have hx : ([1, 4, 3] : List Int) = x := by simpa using hx); subst hx; exact ⟨_, rfl, HR_r4_1.out⟩) (fun x hx => by (have hx : ([2, 5, 4] : List Int) = x := by simpa using hx); subst hx; exact ⟨_, rfl, HR_r4_2.out⟩) ⟨Nat.le_of_lt HL_r4_0.out, Nat.le_of_lt HL_r4_1.out, Nat.le_of_lt HL_r4_2.out, Nat.le_refl _⟩ ?_; (case hd => rfl); (case hg => rfl); (case hr => first | (go_simp; done) | (go_simp; rfl)); intro AF_4 CF_4 w_s4 hr_ hbl_ hb_ hm_; clear HM HB; have HM := Aside0.mk hm_; have HB := Aside0.mk hb_; have HS_4 := Aside0.mk hr_; have n_ := Aside0.mk (Kd.R_below HR_g4.out hbl_); clear HR_g4; have HR_g4 := n_; clear n_; clear hr_ hbl_ hb_ hm_) | (refine web_put (w0 := w) (b := w.heap.size) (n := 4) (g := _) (K := { data := #[119, 104, 101, 101, 108] }) (V := .agg #[.slice A_g4 (List.length ([0, 1, 2] : List Int)) c_g4, .slice AF_4 (List.length ([([0, 3, 5] : List Int), ([1, 4, 3] : List Int), ([2, 5, 4] : List Int)] : List (List Int))) CF_4]) (p := (([0, 1, 2] : List Int), ([([0, 3, 5] : List Int), ([1, 4, 3] : List Int), ([2, 5, 4] : List Int)] : List (List Int)))) HM.out HB.out ?hg (.tmp 1) (.tmp 23) ?hop ?hm ?hv ?hk ?hw (by decide) ?_; (case hg => rfl); (case hop => exact Or.inl rfl); (case hm => first | (go_simp; done) | (go_simp; rfl)); (case hv => first | (go_simp; done) | (go_simp; rfl)); (case hk => first | decide | rfl); (case hw => exact web_mk HR_g4.out HS_4.out); intro w_i4 hm_ hb_; clear HM HB HR_g4 HS_4; have HM := Aside0.mk hm_; have HB := Aside0.mk hb_; clear hm_ hb_) | ((with_reducible refine gate_dst (N := 24) rfl ?_); refine leg_lit (w0 := w) (b := w.heap.size) (n := 5) (g := _) (N := 24) ([0, 1, 2, 3, 4] : List Int) HM.out HB.out ?hd ?hg ?hr (by simp) ?_; (case hd => rfl); (case hg => rfl); (case hr => first | (go_simp; done) | (go_simp; rfl)); intro A_g5 c_g5 w_g5 hr_ hbl_ hb_ hm_ hlt_; clear HM HB; have HM := Aside0.mk hm_; have HB := Aside0.mk hb_; have HR_g5 := Aside0.mk hr_; have HL_g5 := Aside0.mk hlt_; clear hr_ hbl_ hb_ hm_ hlt_) | ((with_reducible refine gate_dst (N := 25) rfl ?_); refine leg_lit (w0 := w) (b := w.heap.size) (n := 5) (g := _) (N := 25) ([0, 1, 5] : List Int) HM.out HB.out ?hd ?hg ?hr (by simp) ?_; (case hd => rfl); (case hg => rfl); (case hr => first | (go_simp; done) | (go_simp; rfl)); intro A_r5_0 c_r5_0 w_r5_0 hr_ hbl_ hb_ hm_ hlt_; clear HM HB; have HM := Aside0.mk hm_; have HB := Aside0.mk hb_; have HR_r5_0 := Aside0.mk hr_; have HL_r5_0 := Aside0.mk hlt_; have n_ := Aside0.mk (Kd.R_below HR_g5.out hbl_); clear HR_g5; have HR_g5 := n_; clear n_; clear hr_ hbl_ hb_ hm_ hlt_) | ((with_reducible refine gate_dst (N := 26) rfl ?_); refine leg_lit (w0 := w) (b := w.heap.size) (n := 5) (g := _) (N := 26) ([5, 2, 6] : List Int) HM.out HB.out ?hd ?hg ?hr (by simp) ?_; (case hd => rfl); (case hg => rfl); (case hr => first | (go_simp; done) | (go_simp; rfl)); intro A_r5_1 c_r5_1 w_r5_1 hr_ hbl_ hb_ hm_ hlt_; clear HM HB; have HM := Aside0.mk hm_; have HB := Aside0.mk hb_; have HR_r5_1 := Aside0.mk hr_; have HL_r5_1 := Aside0.mk hlt_; have n_ := Aside0.mk (Kd.R_below HR_g5.out hbl_); clear HR_g5; have HR_g5 := n_; clear n_; have n_ := Aside0.mk (Kd.R_below HR_r5_0.out hbl_); clear HR_r5_0; have HR_r5_0 := n_; clear n_; clear hr_ hbl_ hb_ hm_ hlt_) | ((with_reducible refine gate_dst (N := 27) rfl ?_); refine leg_lit (w0 := w) (b := w.heap.size) (n := 5) (g := _) (N := 27) ([6, 3, 4] : List Int) HM.out HB.out ?hd ?hg ?hr (by simp) ?_; (case hd => rfl); (case hg => rfl); (case hr => first | (go_simp; done) | (go_simp; rfl)); intro A_r5_2 c_r5_2 w_r5_2 hr_ hbl_ hb_ hm_ hlt_; clear HM HB; have HM := Aside0.mk hm_; have HB := Aside0.mk hb_; have HR_r5_2 := Aside0.mk hr_; have HL_r5_2 := Aside0.mk hlt_; have n_ := Aside0.mk (Kd.R_below HR_g5.out hbl_); clear HR_g5; have HR_g5 := n_; clear n_; have n_ := Aside0.mk (Kd.R_below HR_r5_0.out hbl_); clear HR_r5_0; have HR_r5_0 := n_; clear n_; have n_ := Aside0.mk (Kd.R_below HR_r5_1.out hbl_); clear HR_r5_1; have HR_r5_1 := n_; clear n_; clear hr_ hbl_ hb_ hm_ hlt_) | ((with_reducible refine gate_dst (N := 28) rfl ?_); refine rows_lit (w0 := w) (b := w.heap.size) (n := 5) (g := _) (N := 28) ([([0, 1, 5] : List Int), ([5, 2, 6] : List Int), ([6, 3, 4] : List Int)] : List (List Int)) [.slice A_r5_0 (List.length ([0, 1, 5] : List Int)) c_r5_0, .slice A_r5_1 (List.length ([5, 2, 6] : List Int)) c_r5_1, .slice A_r5_2 (List.length ([6, 3, 4] : List Int)) c_r5_2] (a' := w_g5.heap.size) (b' := w_r5_0.heap.size) (c := w_r5_1.heap.size) (e := w_r5_2.heap.size) HM.out HB.out ?hd ?hg ?hr (by simp) rfl (fun x hx => by (have hx : ([0, 1, 5] : List Int) = x := by simpa using hx); subst hx; exact ⟨_, rfl, HR_r5_0.out⟩) (fun x hx => by (have hx : ([5, 2, 6] : List Int) = x := by simpa using hx); subst hx; exact ⟨_, rfl, HR_r5_1.out⟩) (fun x hx => by (have hx : ([6, 3, 4] : List Int) = x := by simpa using hx); subst hx; exact ⟨_, rfl, HR_r5_2.out⟩) ⟨Nat.le_of_lt HL_r5_0.out, Nat.le_of_lt HL_r5_1.out, Nat.le_of_lt HL_r5_2.out, Nat.le_refl _⟩ ?_; (case hd => rfl); (case hg => rfl); (case hr => first | (go_simp; done) | (go_simp; rfl)); intro AF_5 CF_5 w_s5 hr_ hbl_ hb_ hm_; clear HM HB; have HM := Aside0.mk hm_; have HB := Aside0.mk hb_; have HS_5 := Aside0.mk hr_; have n_ := Aside0.mk (Kd.R_below HR_g5.out hbl_); clear HR_g5; have HR_g5 := n_; clear n_; clear hr_ hbl_ hb_ hm_) | (refine web_put (w0 := w) (b := w.heap.size) (n := 5) (g := _) (K := { data := #[99, 111, 109, 98] }) (V := .agg #[.slice A_g5 (List.length ([0, 1, 2, 3, 4] : List Int)) c_g5, .slice AF_5 (List.length ([([0, 1, 5] : List Int), ([5, 2, 6] : List Int), ([6, 3, 4] : List Int)] : List (List Int))) CF_5]) (p := (([0, 1, 2, 3, 4] : List Int), ([([0, 1, 5] : List Int), ([5, 2, 6] : List Int), ([6, 3, 4] : List Int)] : List (List Int)))) HM.out HB.out ?hg (.tmp 1) (.tmp 29) ?hop ?hm ?hv ?hk ?hw (by decide) ?_; (case hg => rfl); (case hop => exact Or.inl rfl); (case hm => first | (go_simp; done) | (go_simp; rfl)); (case hv => first | (go_simp; done) | (go_simp; rfl)); (case hk => first | decide | rfl); (case hw => exact web_mk HR_g5.out HS_5.out); intro w_i5 hm_ hb_; clear HM HB HR_g5 HS_5; have HM := Aside0.mk hm_; have HB := Aside0.mk hb_; clear hm_ hb_))

  go_ret
  exact ⟨_, rfl, HM.out, HB.out⟩
/-- What the map answers at a name. -/
theorem named_g (a0 : ByteArray) {r1 : List Int} {r2 : List (List Int)} {r3 : Bool} (h : spec_l06Named.f a0 = some (r1, r2, r3)) : (namedG (.string a0.data.toList) = some (r1, r2) ∧ r3 = true) ∨ (namedG (.string a0.data.toList) = none ∧ r1 = [] ∧ r2 = [] ∧ r3 = false) := by
  unfold spec_l06Named.f at h
  unfold namedG
  simp only [updG, Lit.string.injEq]
  rw [toList_data] at h
  by_cases c0 : a0.data.toList = ([99, 104, 111, 114, 100] : List UInt8)
  · rw [if_pos c0] at h; injection h with h; injection h with h1 h2; injection h2 with h2 h3; subst h1 h2 h3; left; rw [c0]; exact ⟨by simp, rfl⟩
  rw [if_neg c0] at h
  by_cases c1 : a0.data.toList = ([102, 111, 114, 107] : List UInt8)
  · rw [if_pos c1] at h; injection h with h; injection h with h1 h2; injection h2 with h2 h3; subst h1 h2 h3; left; rw [c1]; exact ⟨by simp, rfl⟩
  rw [if_neg c1] at h
  by_cases c2 : a0.data.toList = ([114, 105, 110, 103] : List UInt8)
  · rw [if_pos c2] at h; injection h with h; injection h with h1 h2; injection h2 with h2 h3; subst h1 h2 h3; left; rw [c2]; exact ⟨by simp, rfl⟩
  rw [if_neg c2] at h
  by_cases c3 : a0.data.toList = ([98, 114, 105, 100, 103, 101] : List UInt8)
  · rw [if_pos c3] at h; injection h with h; injection h with h1 h2; injection h2 with h2 h3; subst h1 h2 h3; left; rw [c3]; exact ⟨by simp, rfl⟩
  rw [if_neg c3] at h
  by_cases c4 : a0.data.toList = ([119, 104, 101, 101, 108] : List UInt8)
  · rw [if_pos c4] at h; injection h with h; injection h with h1 h2; injection h2 with h2 h3; subst h1 h2 h3; left; rw [c4]; exact ⟨by simp, rfl⟩
  rw [if_neg c4] at h
  by_cases c5 : a0.data.toList = ([99, 111, 109, 98] : List UInt8)
  · rw [if_pos c5] at h; injection h with h; injection h with h1 h2; injection h2 with h2 h3; subst h1 h2 h3; left; rw [c5]; exact ⟨by simp, rfl⟩
  rw [if_neg c5] at h
  injection h with h; injection h with h1 h2; injection h2 with h2 h3; subst h1 h2 h3; right; simp [c0, c1, c2, c3, c4, c5]
theorem named_look (a0 : ByteArray) {r1 : List Int} {r2 : List (List Int)} {r3 : Bool} {w : World} {base b : Nat} (h : spec_l06Named.f a0 = some (r1, r2, r3)) (hz : a0.size < maxLen) (hM : WM w base b 6 namedG) :
    ∃ v0 v1 : Value, (Instr.lookup 43 (.map (some b)) (.string a0) true).run Try.prog w = .ok (.tuple #[.agg #[v0, v1], .bool r3]) w ∧ Kd.R (Kd.int .i64) 2 w base (fun _ => True) v0 r1 ∧ Kd.S (Kd.slice 2 (Kd.int .i64)) 22 w base (fun k => base ≤ k ∧ some k ≠ v0.ownBlock) v1 r2 := by
  obtain ⟨D, f, m0, m1, m2, m3⟩ := hM
  have hl := look_ok_held (t := 43) (key := .string a0) m1 m2 (Maps.string_keyed Try.underlying9) Try.underlying43 (zero_W w) (WideMaps.keyOf_string_mk Try.underlying9 (by omega))
  rcases named_g a0 h with ⟨hg, rfl⟩ | ⟨hg, rfl, rfl, rfl⟩
  · cases hf : f (.string a0.data.toList) with
    | none =>
      rw [(m3 _).2 hf] at hg
      cases hg
    | some v =>
      obtain ⟨p, hp, v0, v1, rfl, h0, h1⟩ := (m3 _).1 v hf
      rw [hg] at hp
      injection hp with hp
      subst hp
      rw [hf] at hl
      exact ⟨v0, v1, hl, Kd.R_mono h0 (fun _ _ => trivial), Kd.S_mono (Kd.S_bound h1) (fun k hk => ⟨hk.2.1, hk.1.1⟩)⟩
  · cases hf : f (.string a0.data.toList) with
    | some v =>
      obtain ⟨p, hp, _⟩ := (m3 _).1 v hf
      rw [hg] at hp
      cases hp
    | none =>
      rw [hf] at hl
      exact ⟨.slice none 0 0, .slice none 0 0, hl, Kd.R_nil _ _ _ _ _, Kd.S_nil _ _ _ _ _⟩

end Go.Proofs.Ytflpdjmdkdgijaa.G
