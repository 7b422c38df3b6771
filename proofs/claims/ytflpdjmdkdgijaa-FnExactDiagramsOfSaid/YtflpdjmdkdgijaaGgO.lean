-- Written by the session's program mk.py (which runs the kit's print.py over functions and over contracts given by hand).
import Derived.Test.YtflpdjmdkdgijaaG0
import Derived.Test.YtflpdjmdkdgijaaGgI
import Derived.Test.YtflpdjmdkdgijaaGgK
import Derived.Test.YtflpdjmdkdgijaaGgV
import Derived.Test.YtflpdjmdkdgijaaPlainD
import Derived.Test.YtflpdjmdkdgijaaPlainE
import Derived.Test.YtflpdjmdkdgijaaPlainZ
import Derived.Lib.SliceRun
import Derived.Deep.RegionLaw
import Derived.Shelf.RegionOpenPlain
import Derived.Deep.RegionLawGrows
import Derived.Lib.SliceRun
namespace Go.Proofs.Ytflpdjmdkdgijaa.G
open Go.RowKit Go.Maps Go.Proofs.YtflpdjmdkdgijaaW.PrintWords Go.Proofs.YtflpdjmdkdgijaaW.PrintLast Go.Proofs.YtflpdjmdkdgijaaW.PrintMore
attribute [local go_sem] max2_int min2_int max_two min_two max_three min_three max_four min_four   -- for this text's walks alone
set_option linter.unusedVariables false
set_option linter.unusedSimpArgs false

open Go.Proofs.Ytflpdjmdkdgijaa.Plain
/-! ### slices_Clip_int64_int64: function 42, by hand -/
set_option maxHeartbeats 1000000 in
set_option maxRecDepth 100000 in
theorem slices_Clip_int64_int64.calls (A0 : Option Addr) (n c0 : Nat) (w : World) (hc0 : n ≤ c0) (hm : c0 ≤ maxLen) (hnil : A0 = none → c0 = 0) :
    Calls Try.prog 42 #[.slice A0 n c0] w fun e w' => e = .returned (.slice A0 n n) ∧ w' = w := by
  cases A0 with
  | none =>
    obtain rfl : c0 = 0 := hnil rfl
    obtain rfl : n = 0 := by omega
    go_enter Try.func42, Try.ntmps42
    go_wp2
    go_ret
    exact ⟨rfl, rfl⟩
  | some ad =>
    go_enter Try.func42, Try.ntmps42
    go_wp2
    go_ret
    exact ⟨rfl, rfl⟩

/-! ### slices_Delete_int64_int64: function 43, by hand -/
theorem slices_Delete.info : ∃ i, Try.prog.info? 2 = some i ∧ i.size = 1 := by
  have h : (Try.prog.info? 2).map (fun i => i.size) = some 1 := by kernel_rfl
  cases e : Try.prog.info? 2 with
  | none => rw [e] at h; cases h
  | some i => rw [e] at h; exact ⟨i, rfl, Option.some.inj h⟩
set_option maxHeartbeats 4000000 in
set_option maxRecDepth 1000000 in
theorem slices_Delete_int64_int64.calls (g cap k j base : Nat) (ok : Nat → Prop) (l : List Int) (w : World) (ho : Kd.R (Kd.int .i64) 2 w base ok (.slice (some ⟨g, 0, none⟩) l.length cap) l) (hk : k < l.length) (hj : j = k + 1) (hl : l.length ≤ 1048576) :
    Calls Try.prog 43 #[.slice (some ⟨g, 0, none⟩) l.length cap, .int .i64 k, .int .i64 j] w fun e w' => e = .returned (.slice (some ⟨g, 0, none⟩) (l.length - 1) cap) ∧ Kd.R (Kd.int .i64) 2 w' base ok (.slice (some ⟨g, 0, none⟩) (l.length - 1) cap) (l.eraseIdx k) ∧ w.grownBy w' (some g) := by
  obtain ⟨i0, hi0, hz1⟩ := slices_Delete.info
  have t22 := Try.underlying22
  have hcap : l.length ≤ cap := (Kd.R_reads' ho).2.1
  obtain ⟨g2, cap2, e2, _, _, _⟩ := Kd.R_form ho (by omega)
  have HC := Aside0.mk ho
  have hown := Kd.own_of_R ho
  have hcm : cap ≤ maxLen := by
    rcases hown.2 with ⟨e, _⟩ | ⟨g3, cap3, cur, e, _, _, _, h5, _⟩
    · cases e
    · injection e with _ _ e; omega
  have hmx : cap ≤ 9223372036854775807 := by unfold maxLen at hcm; omega
  clear e2 hown hcm
  obtain ⟨news, hnews⟩ : ∃ news, news = (l.drop j).map (Value.int .i64) := ⟨_, rfl⟩
  have hlen : news.length = l.length - j := by rw [hnews]; simp
  have hget : ∀ t, t < l.length - j → w.drew.cell? ⟨g, 0 + (j + t), none⟩ = news[t]? := by
    intro t ht
    have h1 := (Kd.R_celln 0 ho ((j + t : Nat) : Int) (by omega) (by omega)).1
    rw [Int.toNat_natCast] at h1
    rw [Nat.zero_add]
    show w.cell? _ = _
    rw [h1, hnews, List.getElem?_map, List.getElem?_drop, List.getElem?_eq_getElem (by omega)]
    unfold rdOf
    rw [Int.toNat_natCast, List.getD_eq_getElem?_getD, List.getElem?_eq_getElem (by omega)]
    rfl
  obtain ⟨A, hA, hsrc⟩ : ∃ A : Addr, (if cap = j then some (⟨g, 0, none⟩ : Addr) else some ⟨g, j, none⟩) = some A ∧ Aside0 (∀ t u, news[t]? = some u → w.drew.cell? (A.add t) = some u) := by
    by_cases h : cap = j
    · refine ⟨⟨g, 0, none⟩, by simp [h], ⟨fun t u hu => ?_⟩⟩
      have h0 : news.length = 0 := by rw [hlen]; omega
      rw [List.length_eq_zero_iff.1 h0] at hu
      simp at hu
    · refine ⟨⟨g, j, none⟩, by simp [h], ⟨fun t u hu => ?_⟩⟩
      have ht : t < l.length - j := by
        have := (List.getElem?_eq_some_iff.1 hu).1
        rwa [hlen] at this
      rw [← hu, ← hget t ht, Nat.zero_add, Addr.add_lit]
  have s1 : Aside0 (news.length = (l.length - j) * 1) := ⟨by rw [Nat.mul_one]; exact hlen⟩
  have s2 : Aside0 (∀ u ∈ news, u.oneCell' = true) := ⟨by
    intro u hu
    rw [hnews] at hu
    obtain ⟨x, _, rfl⟩ := List.mem_map.1 hu
    rfl⟩
  have s3 : Aside0 (∀ t, t < news.length → (w.drew.cell? ⟨g, 0 + k * 1 + t, none⟩).isSome = true ∧ w.drew.frozen? ⟨g, 0 + k * 1 + t, none⟩ = false) := ⟨by
    intro t ht
    rw [hlen] at ht
    have h1 := Kd.R_celln 0 ho ((k + t : Nat) : Int) (by omega) (by omega)
    rw [Int.toNat_natCast] at h1
    rw [Nat.mul_one, Nat.zero_add]
    exact ⟨by show (w.cell? _).isSome = true; rw [h1.1]; rfl, h1.2⟩⟩
  obtain ⟨W1, hW1⟩ : ∃ W1, W1 = w.drew.setCells g (0 + k * 1) news := ⟨_, rfl⟩
  have hR1 := R_over (o := k) (Kd.R_drew ho) (l.drop j)
  rw [← hnews, show w.drew.setCells g k news = W1 by rw [hW1, Nat.mul_one, Nat.zero_add]] at hR1
  have hcl : ∀ ty, (Builtin.clear_ #[22] ty #[.slice (some ⟨g, k + (l.length - j), none⟩) (l.length - (k + (l.length - j))) (cap - (k + (l.length - j)))]).run Try.prog W1 = .ok (.tuple #[]) (W1.setCells g (k + (l.length - j)) (List.replicate (l.length - (k + (l.length - j))) (.int .i64 0))) := fun ty =>
    Lib.run_clear_slice W1 _ 2 ty _ t22 zero2 rfl rfl g (k + (l.length - j)) _ _ (by omega)
      (fun t ht => by rw [show (k + (l.length - j) + t : Nat) = ((k + (l.length - j) + t : Nat) : Int).toNat from rfl, (Kd.R_celln 0 hR1.1 ((k + (l.length - j) + t : Nat) : Int) (by omega) (by omega)).1]; rfl)
      (fun t ht => by rw [show (k + (l.length - j) + t : Nat) = ((k + (l.length - j) + t : Nat) : Int).toNat from rfl]; exact (Kd.R_celln 0 hR1.1 ((k + (l.length - j) + t : Nat) : Int) (by omega) (by omega)).2)
  have X := Aside0.mk hR1
  have hW : Aside0 (W1 = w.drew.setCells g (0 + k * 1) news) := ⟨hW1⟩
  clear hW1 hR1 hget hnews hlen ho HC
  have e1 : ((k : Int) == (j : Int)) = false := beq_eq_false_iff_ne.2 (by omega)
  have hic : k ≤ cap := by omega
  have hjc : j ≤ cap := by omega
  have hij : k ≤ j := by omega
  have hjl : j ≤ l.length := by omega
  have mixed : Try.prog.follows Departure.mixedOrders = true := by kernel_rfl
  have HJ := Aside0.mk hj
  have hkj : k < j := by omega
  have hle : k + (l.length - j) ≤ l.length := by omega
  have hle2 : k + (l.length - j) ≤ cap := by omega
  have hlt : ¬ (l.length - (k + (l.length - j)) = 0) := by omega
  clear hj
  go_enter Try.func43, Try.ntmps43
  go_wp2_with fail
  go_region_law_o (refine step_append_room rfl (.tmp 22) (.tmp 25) 22 rfl 2 i0 1 t22 hi0 hz1 g 0 k cap (by simp [Act.eval, Act.put]) A (l.length - j) (cap - j) news (by simp [Act.eval, Act.put]) s1.out hsrc.out s2.out (by omega) s3.out ?_; rw [← hW.out])
  go_wp2
  go_ret
  have hq : k + (l.length - j) = l.length - 1 := by have := HJ.out; omega
  have hC := R_cut X.out.1 (i := k + (l.length - j)) (by rw [overL_length]; omega) (List.replicate (l.length - (k + (l.length - j))) (.int .i64 0))
  refine ⟨by rw [← hq]; rfl, ?_, ?_⟩
  · rw [← overL_drop l k hk, ← hq, ← HJ.out]
    exact hC.1
  · have h1 := X.out.2
    have h2 : w.grownBy W1 (some g) := ⟨h1.os, h1.tape, h1.output, h1.size, h1.block⟩
    exact h2.trans hC.2

/-! ### impl_wordsOf_1: function 40, by hand -/
/-- The words that begin with l (so many chords open: left; the next new one: next), d places before the end. -/
def moreF (n : Nat) : Nat → List Int → List Int → Nat → List (List Int)
  | 0, l, _, _ => [l]
  | d + 1, l, left, next => (List.range left.length).flatMap (fun k => moreF n d (l ++ [left.getD k 0]) (left.eraseIdx k) next) ++ (if next < n then moreF n d (l ++ [(next : Int)]) (left ++ [(next : Int)]) (next + 1) else [])
/-- What a call of 'more' leaves as it was. -/
structure Kp (B : Nat) (W W' : World) : Prop where
  os : W'.os = W.os
  tape : W'.tape = W.tape
  output : W'.output = W.output
  size : W.heap.size ≤ W'.heap.size
  block : ∀ k, k < W.heap.size → (k < B ∨ ∃ cells t, W.heap[k]? = some (.cells cells t (0, 0)) ∧ t ≠ 22 ∧ t ≠ 23) → W'.heap[k]? = W.heap[k]?
theorem Kp.of_below {B : Nat} {W W' : World} (h : Below W.heap.size W W') : Kp B W W' := ⟨h.os, h.tape, h.output, h.size, fun k hk _ => h.block k hk⟩
theorem Kp.refl (B : Nat) (W : World) : Kp B W W := Kp.of_below (Below.refl _ _)
theorem Kp.trans {B : Nat} {W W1 W2 : World} (h : Kp B W W1) (h2 : Kp B W1 W2) : Kp B W W2 :=
  ⟨h2.os.trans h.os, h2.tape.trans h.tape, h2.output.trans h.output, Nat.le_trans h.size h2.size, fun k hk hc => by
    have e1 := h.block k hk hc
    refine (h2.block k (Nat.lt_of_lt_of_le hk h.size) ?_).trans e1
    rcases hc with hc | ⟨cells, t, hc, h3⟩
    · exact .inl hc
    · exact .inr ⟨cells, t, e1.trans hc, h3⟩⟩
abbrev RI (W : World) (base : Nat) (v : Value) (l : List Int) : Prop := Kd.R (Kd.int .i64) 2 W base (fun _ => True) v l
abbrev SI (W : World) (base : Nat) (v : Value) (rows : List (List Int)) : Prop := Kd.S (Kd.slice 2 (Kd.int .i64)) 22 W base (fun _ => True) v rows
theorem RI.kp {B : Nat} {W W' : World} {base : Nat} {v : Value} {l : List Int} (h : RI W base v l) (hk : Kp B W W') : RI W' base v l :=
  Kd.R_mono (Kd.R_step (Kd.R_bound h) (fun k ho hlt => hk.block k hlt (Or.inr (by
    obtain ⟨_, _, _, q, hq, cells, hc⟩ := ho
    have hq2 : q = 2 := List.mem_singleton.1 hq
    subst hq2
    exact ⟨cells, _, hc, by decide, by decide⟩)))) (fun _ _ => trivial)
theorem RI.cap {W : World} {base : Nat} {A : Option Addr} {n c : Nat} {l : List Int} (h : RI W base (.slice A n c) l) : n ≤ c ∧ c ≤ maxLen ∧ (A = none → c = 0) := by
  have h1 := Kd.own_of_R h
  have h2 := (Kd.R_reads' h).2.1
  rcases h1.2 with ⟨e, _⟩ | ⟨g, cap, cur, e, _, _, _, h5, _⟩
  · injection e with e1 e2 e3
    exact ⟨h2, by omega, fun _ => e3⟩
  · injection e with e1 e2 e3
    exact ⟨h2, by omega, fun e4 => by rw [e4] at e1; cases e1⟩
theorem RI.at_ {W : World} {base : Nat} {A : Option Addr} {n c : Nat} {l : List Int} (h : RI W base (.slice A n c) l) (b : Addr) (hb : A = some b) (j : Nat) (u : Value) (hu : (l.map (Value.int .i64))[j]? = some u) : W.cell? (b.add j) = some u := by
  subst hb
  have hj : j < l.length := by
    have := (List.getElem?_eq_some_iff.1 hu).1
    simpa using this
  obtain ⟨g, c2, e, _⟩ := Kd.R_form h (by omega)
  injection e with e1 e2 e3
  injection e1 with e1
  subst e1
  have h1 := (Kd.R_celln 0 h (j : Int) (by omega) (by have := (Kd.R_reads' h).1; omega)).1
  rw [Int.toNat_natCast] at h1
  rw [Addr.add_lit, Nat.zero_add, h1, ← hu, List.getElem?_map, List.getElem?_eq_getElem hj]
  unfold rdOf
  rw [Int.toNat_natCast, List.getD_eq_getElem?_getD, List.getElem?_eq_getElem hj]
  rfl
theorem info_int64 : ∃ i, Try.prog.info? 2 = some i ∧ i.zero = some (.int .i64 0) ∧ i.size = 1 ∧ i.bytes = 8 := by
  have h := slices_Clone.info
  cases e : Try.prog.info? 2 with
  | none => rw [e] at h; cases h
  | some i =>
    rw [e] at h
    simp only [Option.map_some, Option.some.injEq, Prod.mk.injEq] at h
    exact ⟨i, rfl, h.1, h.2.1, h.2.2⟩
/-- The boxes that 'more' holds: n, what has been found, 'more' itself. -/
def capsM (gn go gm : Nat) : Array Value := #[.pointer (some ⟨gn, 0, none⟩), .pointer (some ⟨go, 0, none⟩), .pointer (some ⟨gm, 0, none⟩)]
structure Out (W : World) (B n gn go gm : Nat) (rows : List (List Int)) (A : Option Addr) (c : Nat) : Prop where
  kn : W.heap[gn]? = some (.cells #[.int .i64 n] 3 (0, 0))
  km : W.heap[gm]? = some (.cells #[.func (.func 40) #[] (capsM gn go gm)] 54 (0, 0))
  ko : W.heap[go]? = some (.cells #[.slice A rows.length c] 23 (0, 0))
  hs : SI W B (.slice A rows.length c) rows
  hB : B ≤ go
theorem Out.below {W W' : World} {B n gn go gm : Nat} {rows : List (List Int)} {A : Option Addr} {c : Nat} (h : Out W B n gn go gm rows A c) (hb : Below W.heap.size W W') : Out W' B n gn go gm rows A c :=
  ⟨blk_below h.kn hb, blk_below h.km hb, blk_below h.ko hb, Kd.S_below h.hs hb, h.hB⟩
theorem Kp.row {B : Nat} {W W1 : World} {u : Value} {rows : List (List Int)} (h : SI W B u rows) (hg : W.grownBy W1 u.ownBlock) : Kp B W W1 :=
  ⟨hg.os, hg.tape, hg.output, hg.size, fun k hk hc => hg.block k hk (fun e => by
    rcases hc with hc | ⟨cells, t, hc, h2, _⟩
    · have := Kd.S_base h k e.symm
      omega
    · obtain ⟨c2, h3⟩ := Kd.S_typed h k e.symm
      rw [h3] at hc
      injection hc with hc
      injection hc with _ hc
      exact h2 hc.symm)⟩
theorem Kp.box {B go : Nat} {W : World} {cs : Array Value} (h : W.heap[go]? = some (.cells cs 23 (0, 0))) (hB : B ≤ go) (v : Value) : Kp B W (W.setCell ⟨go, 0, none⟩ v) :=
  ⟨rfl, rfl, rfl, by simp [World.setCell], fun k hk hc => Below.heap_setCell _ _ _ _ (fun e => by
    have e : k = go := e
    subst e
    rcases hc with hc | ⟨cells, t, hc, _, h2⟩
    · omega
    · rw [h] at hc
      injection hc with hc
      injection hc with _ hc
      exact h2 hc.symm)⟩
section
variable {ops : Array Oper} {oi : Oper} {a : Act} {W : World} {K : Act → World → Prop} {Q : Exit → Act → World → Prop} {E : Prop}
theorem lit1_step (x : Int) (hw : Region.wanted oi (yielded ops a.tmps) = true)
    (hr : (execOp a.eval oi).run Try.prog W = .ok (.value (.slice (some ⟨W.heap.size, 0, none⟩) 1 1)) (W.alloc (.cells #[.int .i64 x] 2)))
    (h : ∀ g w1, w1.heap[g]? = some (.cells #[.int .i64 x] 2 (0, 0)) → Below W.heap.size W w1 → K (a.put oi.dst (.slice (some ⟨g, 0, none⟩) 1 1)) w1) :
    if Region.wanted oi (yielded ops a.tmps) = true then Oper.wp Try.prog oi a W K Q else E := by
  rw [if_pos hw]
  unfold Oper.wp
  rw [hr]
  exact h _ _ (blk_new _ _) (below_alloc (Below.refl _ _) _)
theorem clip_step (A : Option Addr) (c : Nat) (l : List Int) (x : Int) (g : Nat) {base : Nat} (s t : Operand) (hg : oi.guard = none) (hop : oi.op = Op.call { callee := Callee.builtin Builtin.append, args := #[s, t], argTypes := #[22, 22] })
    (hR : RI W base (.slice A l.length c) l) (hs : a.eval s = .slice A l.length l.length) (ht : a.eval t = .slice (some ⟨g, 0, none⟩) 1 1) (hx : W.heap[g]? = some (.cells #[.int .i64 x] 2 (0, 0))) (hl : l.length ≤ 1000000)
    (h : ∀ A' c' w1, RI w1 W.heap.size (.slice A' (l.length + 1) c') (l ++ [x]) → Below W.heap.size W w1 → K (a.put oi.dst (.slice A' (l.length + 1) c')) w1) :
    if Region.wanted oi (yielded ops a.tmps) = true then Oper.wp Try.prog oi a W K Q else E := by
  obtain ⟨i, h1, h2, h3, h4⟩ := info_int64
  refine step_append_grows hg s t 22 hop 2 i (.int .i64 0) 1 8 Try.underlying22 h1 h2 h3 h4 rfl (by decide) A l.length l.length (l.map (Value.int .i64)) hs (fun e => ⟨by have := hR.cap; have := this.2.2 e; omega, by have := hR.cap; have := this.2.2 e; omega⟩) (by simp) (fun b hb => hR.at_ b hb) ⟨g, 0, none⟩ 1 1 [.int .i64 x] ht (by simp) ?_ (by intro u hu; rw [List.mem_singleton.1 hu]; rfl) (by omega) (by unfold maxLen; omega) (by omega) ?_
  · intro j u hu
    match j with
    | 0 =>
      have e : u = .int .i64 x := by simpa using hu.symm
      subst e
      exact (blk_cell hx 0).trans rfl
    | j + 1 => simp at hu
  · intro v' w' hown hgr
    have hb : Below W.heap.size W w' := ⟨hgr.os, hgr.tape, hgr.output, hgr.size, fun k hk => hgr.block k hk (by simp)⟩
    have hR' : RI w' W.heap.size v' (l ++ [x]) := Kd.R_of_own (xs := l ++ [x]) (by
      have e : encs (Value.int .i64) (l ++ [x]) = l.map (Value.int .i64) ++ [.int .i64 x] := by simp [encs]
      rw [e, List.length_append]
      exact hown) (fun _ _ => trivial)
    obtain ⟨A', c', rfl⟩ := Kd.R_slice hR'
    rw [List.length_append] at hR' ⊢
    exact h A' c' w' hR' hb
theorem goesV_ {N : Option Tmp} {f : FuncId} {fn : Func} {ag : Array Operand} {ts : Array TypeId} {t : Tmp} {caps : Array Value} (hf : Try.prog.funcs[f]? = some fn) (hname : (fn.name == "runtime.NumGoroutine") = false) (hb : fn.body.isSome = true) (args : Array Value)
    (hw : Region.wanted oi (yielded ops a.tmps) = true) (hN : oi.dst = N) (hop : oi.op = .call { callee := .value (.tmp t), args := ag, argTypes := ts }) (ht : a.eval (.tmp t) = .func (.func f) #[] caps) (hargs : ag.map a.eval = args)
    (h : Calls Try.prog f (args ++ caps) W fun e w' => ∃ v, e = .returned v ∧ K (a.put N v) w') : if Region.wanted oi (yielded ops a.tmps) = true then Oper.wp Try.prog oi a W K Q else K (a.put N undef) W := by
  refine call_ f (args ++ caps) hw hN ?_ h
  have he := enters_ hf hname hb (args ++ caps) W
  have ht2 : a.eval (.tmp t) = .func (.func f) #[] caps := ht
  unfold execOp
  simp [hop, resolve, Deferred.ofValue, invoke, ht2, hargs, he]
end
theorem flat_le {α : Type} (f : Nat → List α) (m k : Nat) (h : k < m) : ((List.range k).flatMap f).length + (f k).length ≤ ((List.range m).flatMap f).length := by
  obtain ⟨r, rfl⟩ : ∃ r, m = k + 1 + r := ⟨m - (k + 1), by omega⟩
  have e1 : List.range (k + 1 + r) = List.range k ++ [k] ++ (List.range r).map (k + 1 + ·) := by rw [List.range_add, List.range_succ]
  rw [e1, List.flatMap_append, List.flatMap_append, List.length_append, List.length_append, List.flatMap_singleton]
  omega
def impl_wordsOf_1.T1 : Bool × List (List Nat × List Nat) := (true, [([], []), ([], []), ([1], [1]), ([2], [2]), ([0, 3, 2], [0, 3]), ([4, 4, 0, 1, 2, 3, 4], [4])])
def impl_wordsOf_1.B1 : List Nat := [0, 0, 2, 6, 15, 31]
theorem impl_wordsOf_1.tab1 : rtab .any (opsOf Try.f40 1) = impl_wordsOf_1.T1 := by kernel_rfl
theorem impl_wordsOf_1.bits1 : waitsOk impl_wordsOf_1.T1.2 impl_wordsOf_1.B1 = true := by kernel_rfl
def impl_wordsOf_1.T5 : Bool × List (List Nat × List Nat) := (true, [([], []), ([], []), ([1], [1]), ([], []), ([3], [3]), ([2, 4, 2], [2, 4]), ([], []), ([6, 5], [6]), ([], []), ([], []), ([9], [9]), ([7, 8, 10, 7], [7, 8, 10]), ([], []), ([0, 5, 11, 12, 11], [0, 5, 11, 12])])
def impl_wordsOf_1.B5 : List Nat := [0, 0, 2, 0, 8, 30, 0, 126, 0, 0, 512, 2046, 0, 8191]
theorem impl_wordsOf_1.tab5 : rtab .any (opsOf Try.f40 5) = impl_wordsOf_1.T5 := by kernel_rfl
theorem impl_wordsOf_1.bits5 : waitsOk impl_wordsOf_1.T5.2 impl_wordsOf_1.B5 = true := by kernel_rfl
def impl_wordsOf_1.T8 : Bool × List (List Nat × List Nat) := (true, [([], []), ([], []), ([1], [1]), ([], []), ([3], [3]), ([2, 4, 2], [2, 4]), ([], []), ([6, 5], [6]), ([], []), ([8], [8]), ([7, 9, 7], [7, 9]), ([], []), ([11], [11]), ([0, 5, 10, 12, 10], [0, 5, 10, 12])])
def impl_wordsOf_1.B8 : List Nat := [0, 0, 2, 0, 8, 30, 0, 126, 0, 256, 1022, 0, 2048, 8191]
theorem impl_wordsOf_1.tab8 : rtab .any (opsOf Try.f40 8) = impl_wordsOf_1.T8 := by kernel_rfl
theorem impl_wordsOf_1.bits8 : waitsOk impl_wordsOf_1.T8.2 impl_wordsOf_1.B8 = true := by kernel_rfl
def loopF (n d : Nat) (l left : List Int) (next k : Nat) : List (List Int) := (List.range k).flatMap fun i => moreF n d (l ++ [left.getD i 0]) (left.eraseIdx i) next
theorem moreF_eq (n d : Nat) (l left : List Int) (next : Nat) : moreF n (d + 1) l left next = loopF n d l left next left.length ++ (if next < n then moreF n d (l ++ [(next : Int)]) (left ++ [(next : Int)]) (next + 1) else []) := rfl
theorem loopF_succ (n d : Nat) (l left : List Int) (next k : Nat) : loopF n d l left next (k + 1) = loopF n d l left next k ++ moreF n d (l ++ [left.getD k 0]) (left.eraseIdx k) next := by
  unfold loopF
  rw [List.range_succ, List.flatMap_append, List.flatMap_singleton]
theorem loopF_le (n d : Nat) (l left : List Int) (next k : Nat) (hk : k < left.length) : (loopF n d l left next k).length + (moreF n d (l ++ [left.getD k 0]) (left.eraseIdx k) next).length ≤ (moreF n (d + 1) l left next).length := by
  have h : (loopF n d l left next k).length + (moreF n d (l ++ [left.getD k 0]) (left.eraseIdx k) next).length ≤ (loopF n d l left next left.length).length := flat_le (fun i => moreF n d (l ++ [left.getD i 0]) (left.eraseIdx i) next) left.length k hk
  rw [moreF_eq, List.length_append]
  omega
theorem infoS : (Try.prog.info? 22).map (fun i => (i.zero, i.size, i.bytes)) = some (some (.slice none 0 0), (Kd.slice 2 (Kd.int .i64)).sz, 24) := by kernel_rfl
set_option maxHeartbeats 16000000 in
set_option maxRecDepth 1000000 in
theorem impl_wordsOf_1.calls (n B gn go gm : Nat) (hn : n ≤ 5) : ∀ (d : Nat) (l left : List Int) (next : Nat) (rows : List (List Int)) (vw vl : Value) (A : Option Addr) (c : Nat) (W : World),
    l.length + d = 2 * n → left.length ≤ l.length → next ≤ n → rows.length + (moreF n d l left next).length ≤ 1000000 → Out W B n gn go gm rows A c → RI W 0 vw l → RI W 0 vl left →
    Calls Try.prog 40 (#[vw, vl, .int .i64 next] ++ capsM gn go gm) W fun e W' => e = .returned (.tuple #[]) ∧ ∃ A' c', Out W' B n gn go gm (rows ++ moreF n d l left next) A' c' ∧ Kp B W W' := by
  intro d
  induction d with
  | zero =>
    intro l left next rows vw vl A c W hl hle hx hlen hO hw hleft
    obtain ⟨Aw, cw, rfl⟩ := Kd.R_slice hw
    obtain ⟨Al, cl, rfl⟩ := Kd.R_slice hleft
    have hcn : W.cell? ⟨gn, 0, none⟩ = some (.int .i64 n) := (blk_cell hO.kn 0).trans rfl
    have e1 : ((l.length : Int) == IntKind.i64.wrap (2 * (n : Int))) = true := beq_iff_eq.2 (by rw [Go.wrap_small _ (by omega) (by omega)]; omega)
    have e2 : ((l.length : Int) == 2 * (n : Int)) = true := beq_iff_eq.2 (by omega)
    have FC : Aside0 (slices_Clone_int64_int64.f l = some l) := ⟨by unfold slices_Clone_int64_int64.f; rw [if_pos (by omega)]⟩
    have LN := Aside0.mk hlen
    have BS : Aside0 (B ≤ W.drew.heap.size) := ⟨Nat.le_of_lt (Nat.lt_of_le_of_lt hO.hB (blk_lt hO.ko))⟩
    have OO0 := Aside0.mk (hO.below (below_drew1 (Below.refl _ _)))
    have RW := Aside0.mk (Kd.R_drew hw)
    have BD := Aside0.mk (below_drew1 (Below.refl W.heap.size W))
    show Calls Try.prog 40 #[.slice Aw l.length cw, .slice Al left.length cl, .int .i64 next, .pointer (some ⟨gn, 0, none⟩), .pointer (some ⟨go, 0, none⟩), .pointer (some ⟨gm, 0, none⟩)] W _
    clear hl hle hlen hO hw hleft
    go_enter Try.func40, Try.ntmps40
    go_wp2_with fail
    have OO := OO0
    clear OO0 hcn e1 e2
    refine start_ (n := 6) (S := fun w' => w'.cell? ⟨go, 0, none⟩ = some (.slice A rows.length c)) (ds := [5]) #[false, false, false, false, false, false] (by kernel_rfl) rfl rfl ((blk_cell OO.out.ko 0).trans rfl) (fun hHeld => ?_)
    refine with_tabW impl_wordsOf_1.tab1 impl_wordsOf_1.bits1 (fun HT_ HW_ => ?_)
    generalize W.drew = w0 at OO RW BS BD hHeld ⊢
    refine pure_ (i := 1) (N := some 17) (v := ?_) (a' := ?_) #[false, true, false, false, false, false] rfl rfl (any_of HT_.out (by kernel_rfl)) (fun _ _ _ h => h) (Or.inl ⟨by rfl, ?_⟩) ?_ ?_
    rotate_left
    · intro w'
      go_simp
      with_reducible rfl
    rotate_left
    · simp only [Act.put, List.setIfInBounds_toArray, List.set_cons_zero, List.set_cons_succ, i64_w, i32_w]
      rfl
    refine take_ (i := 0) (N := some 16) (v := ?_) (a' := ?_) #[true, true, false, false, false, false] rfl rfl (take_ofW HT_.out HW_.out (by kernel_rfl)) (fun _ _ _ h => h) (Or.inl ⟨by rfl, ?_⟩) hHeld ?_ ?_
    rotate_left
    · intro w' s0
      go_simp
      with_reducible rfl
    rotate_left
    · simp only [Act.put, List.setIfInBounds_toArray, List.set_cons_zero, List.set_cons_succ, i64_w, i32_w]
      rfl
    refine one_ (i := 2) (N := some 18) #[true, true, true, false, false, false] rfl rfl (one_of HT_.out (by kernel_rfl)) (by decide) (fun K hK => ?_)
    refine goes_ Try.func41 (by kernel_rfl) rfl #[.slice Aw l.length cw] (by rfl) rfl rfl (by simp only [List.map_toArray, List.map_cons, List.map_nil]; rfl) ?_
    with_reducible refine (slices_Clone_int64_int64.calls _ _ l l _ (Kd.R_reads' RW.out).2.2 (Kd.R_reads' RW.out).2.1 FC.out).mono ?_
    rintro e w1 ⟨v1, rfl, ho1, hb1⟩
    refine ⟨_, rfl, ?_⟩
    have OO1 := Aside0.mk (OO.out.below hb1)
    have R1 := Aside0.mk ho1
    have B1 := Aside0.mk hb1
    clear ho1 hb1 RW
    obtain ⟨A1, c1, e1⟩ := Kd.R_slice R1.out
    subst e1
    refine hK.out _ _ ((blk_cell OO1.out.ko 0).trans rfl) (fun hHeld => ?_)
    clear hK K
    refine norm_ (a' := ?_) ?_ ?_
    rotate_left
    · show Act.put _ (some 18) _ = _
      simp only [Act.put, List.setIfInBounds_toArray, List.set_cons_zero, List.set_cons_succ, i64_w, i32_w]
      rfl
    refine one_ (i := 3) (N := some 19) #[true, true, true, true, false, false] rfl rfl (one_of HT_.out (by kernel_rfl)) (by decide) (fun K hK => ?_)
    refine value_ (w1 := ?_) (v := ?_) (by rfl) rfl ?_ ?_
    rotate_left 2
    · go_simp
      constructor
      · rfl
      · rfl
    refine hK.out _ _ ((blk_cell (blk_alloc OO1.out.ko _) 0).trans rfl) (fun hHeld => ?_)
    clear hK K
    refine norm_ (a' := ?_) ?_ ?_
    rotate_left
    · show Act.put _ (some 19) _ = _
      simp only [Act.put, List.setIfInBounds_toArray, List.set_cons_zero, List.set_cons_succ, i64_w, i32_w]
      rfl
    refine one_ (i := 4) (N := some 20) #[true, true, true, true, true, false] rfl rfl (one_of HT_.out (by kernel_rfl)) (by decide) (fun K hK => ?_)
    refine Kd.S_append_step (Kd.slice 2 (Kd.int .i64)) (w0 := w1) B (by rfl) (.tmp 16) (.tmp 19) 23 22 (.slice none 0 0) 24 rfl Try.underlying23 infoS rfl (by decide) (by omega) (.slice A rows.length c) rows l [.slice A1 l.length c1] (fun _ => True) (fun k_ => some k_ = (.slice A1 l.length c1 : Value).ownBlock) rfl rfl ?aP ?aK (fun _ _ => trivial) ?aO (Below.refl _ _) ?aS ?aL ?_
    (case aP => exact ⟨_, rfl, Kd.R_tight rfl (Kd.R_lower R1.out BS.out)⟩)
    (case aK => exact fun k_ hk_ => ⟨trivial, fun e_ => by have h1_ := Kd.R_base R1.out k_ hk_.symm; have h2_ := Kd.S_lt OO.out.hs k_ e_.symm; omega⟩)
    (case aO => exact Kd.S_mono (Kd.S_below (Kd.S_bound OO.out.hs) B1.out) (fun k_ hk_ => ⟨trivial, fun e_ => by have h1_ := Kd.R_base R1.out k_ e_.symm; have h2_ := hk_.2.2.1; omega⟩))
    (case aS => exact Nat.le_trans BS.out B1.out.size)
    (case aL => have := LN.out; simp only [moreF, List.length_singleton] at this; omega)
    intro v3 w3 ho3 hb3 hg3 _
    have G3 := Aside0.mk hg3
    have S3 := Aside0.mk ho3
    have kn3 := Aside0.mk (blk_grown (g := gn) OO1.out.kn hg3 (Kd.S_ne OO1.out.hs OO1.out.kn (by decide)))
    have km3 := Aside0.mk (blk_grown (g := gm) OO1.out.km hg3 (Kd.S_ne OO1.out.hs OO1.out.km (by decide)))
    have ko3 := Aside0.mk (blk_grown (g := go) OO1.out.ko hg3 (Kd.S_ne OO1.out.hs OO1.out.ko (by decide)))
    have T3 := Aside0.mk (Kd.S_typed OO1.out.hs)
    clear ho3 hb3 hg3
    obtain ⟨A3, c3, e3⟩ := Kd.S_slice S3.out
    subst e3
    refine hK.out _ _ ((blk_cell ko3.out 0).trans rfl) (fun hHeld => ?_)
    clear hK K
    refine norm_ (a' := ?_) ?_ ?_
    rotate_left
    · show Act.put _ (some 20) _ = _
      simp only [Act.put, List.setIfInBounds_toArray, List.set_cons_zero, List.set_cons_succ, i64_w, i32_w]
      rfl
    refine last_ (i := 5) (N := none) #[true, true, true, true, true, true] rfl rfl (one_of HT_.out (by kernel_rfl)) (by decide) (fun K hK => ?_)
    have hs5 : w3.cell? ⟨go, 0, none⟩ = some (.slice A rows.length c) := (blk_cell ko3.out 0).trans rfl
    have hf5 := blk_frozen ko3.out 0
    refine skip_ (w1 := ?_) (by rfl) rfl ?_ ?_
    rotate_left
    · go_simp
      rfl
    refine hK.out _ _ ?_
    clear hK K
    refine done_ (done_of HT_.out (by kernel_rfl)) ?_
    try go_wp2
    refine bodyPost_ret (results_none rfl _ _ _) rfl ?_
    have hS4 := Kd.S_far (Kd.S_types S3.out ko3.out (by decide)) (p := ⟨go, 0, none⟩) (fun k_ hk_ => hk_.2) (.slice A3 (rows.length + 1) c3)
    refine ⟨rfl, A3, c3, ⟨?_, ?_, ?_, ?_, OO1.out.hB⟩, ?_⟩
    · exact blk_far kn3.out (fun e => by have h := kn3.out; have e : gn = go := e; rw [e, ko3.out] at h; injection h with h; injection h with _ h; cases h) _
    · exact blk_far km3.out (fun e => by have h := km3.out; have e : gm = go := e; rw [e, ko3.out] at h; injection h with h; injection h with _ h; cases h) _
    · exact blk_put ko3.out 0 _ (by show #[Value.slice A3 (rows.length + 1) c3] = #[.slice A3 (rows ++ [l]).length c3]; rw [List.length_append]; rfl)
    · exact Kd.S_mono hS4 (fun _ _ => trivial)
    · exact ((Kp.of_below (below_step BD.out B1.out)).trans (Kp.row OO1.out.hs G3.out)).trans (Kp.box ko3.out OO1.out.hB _)
  | succ d ih =>
    intro l left next rows vw vl A c W hl hle hx hlen hO hw hleft
    obtain ⟨Aw, cw, rfl⟩ := Kd.R_slice hw
    obtain ⟨Al, cl, rfl⟩ := Kd.R_slice hleft
    have hcn : W.cell? ⟨gn, 0, none⟩ = some (.int .i64 n) := (blk_cell hO.kn 0).trans rfl
    have e1 : ((l.length : Int) == 2 * (n : Int)) = false := beq_eq_false_iff_ne.2 (by omega)
    have e2 : ((l.length : Int) == wrap64 (2 * (n : Int))) = false := beq_eq_false_iff_ne.2 (by unfold wrap64; omega)
    have FL : Aside0 (slices_Clone_int64_int64.f left = some left) := ⟨by unfold slices_Clone_int64_int64.f; rw [if_pos (by omega)]⟩
    have LN := Aside0.mk hlen
    have HN := Aside0.mk hn
    have HL := Aside0.mk hl
    have HE := Aside0.mk hle
    have HX := Aside0.mk hx
    have IH := Aside0.mk ih
    have ML : Aside0 (left.length ≤ 1048576) := ⟨by omega⟩
    have OO0 := Aside0.mk hO
    have RW0 := Aside0.mk hw
    have RL0 := Aside0.mk hleft
    show Calls Try.prog 40 #[.slice Aw l.length cw, .slice Al left.length cl, .int .i64 next, .pointer (some ⟨gn, 0, none⟩), .pointer (some ⟨go, 0, none⟩), .pointer (some ⟨gm, 0, none⟩)] W _
    clear hl hle hx hlen hO hw hleft ih hn
    go_enter Try.func40, Try.ntmps40
    go_wp2
    clear hcn e1 e2
    go_loopg [23] (left.length + 1) (fun kq v23 w' => ∃ (k : Nat) (A1 : Option Addr) (c1 : Nat), v23 = .int .i64 k ∧ Aside0 (k ≤ left.length) ∧ Aside0 (kq = left.length + 1 - k) ∧ Aside0 (Out w' B n gn go gm (rows ++ loopF n d l left next k) A1 c1) ∧ Aside0 (RI w' 0 (.slice Aw l.length cw) l) ∧ Aside0 (RI w' 0 (.slice Al left.length cl) left) ∧ Aside0 (Kp B W w'))
    case atStart => exact ⟨0, A, c, rfl, ⟨Nat.zero_le _⟩, ⟨by omega⟩, ⟨by have h := OO0.out; simp only [loopF, List.range_zero, List.flatMap_nil, List.append_nil]; exact h⟩, RW0, RL0, ⟨Kp.refl _ _⟩⟩
    case round =>
      obtain ⟨k, A, c, rfl, KL, KQ, OO0, RW0, RL0, KP0⟩ := hrel
      by_cases hk : k < left.length
      · have c1 : decide ((k : Int) < (left.length : Int)) = true := decide_eq_true (by omega)
        have c2 : decide (k < left.length) = true := decide_eq_true hk
        cases gk with
        | zero => exact absurd KQ.out (by omega)
        | succ k1 =>
        obtain ⟨gl, capl, el, _⟩ := Kd.R_form RL0.out (by omega)
        injection el with el1 el2 el3
        subst el1
        obtain ⟨hx1, _⟩ := Kd.R_celln 0 RL0.out (k : Int) (by omega) (by omega)
        rw [Int.toNat_natCast] at hx1
        have e0 : rdOf 0 left (k : Int) = left.getD k 0 := by unfold rdOf; rw [Int.toNat_natCast]
        rw [e0] at hx1
        obtain ⟨x, hxv⟩ : ∃ x, left.getD k 0 = x := ⟨_, rfl⟩
        rw [hxv] at hx1
        have XV := Aside0.mk hxv
        have p1 : (0 ≤ (k : Int)) = True := eq_true (by omega)
        have q1 : ((k : Int) < (left.length : Int)) = True := eq_true (by omega)
        obtain ⟨j, hj⟩ : ∃ j, j = k + 1 := ⟨_, rfl⟩
        have HJ := Aside0.mk hj
        have E5 : Aside0 (wrap64 ((k : Int) + 1) = (j : Int)) := ⟨by have := ML.out; unfold wrap64; omega⟩
        clear e0 hj el2 el3 hxv
        go_wp2_with fail
        have OO := Aside0.mk (OO0.out.below (below_drew1 (Below.refl _ _)))
        have RW : Aside0 (RI wr.drew 0 (.slice Aw l.length cw) l) := ⟨Kd.R_drew RW0.out⟩
        have RL : Aside0 (RI wr.drew 0 (.slice (some ⟨gl, 0, none⟩) left.length cl) left) := ⟨Kd.R_drew RL0.out⟩
        have KP : Aside0 (Kp B W wr.drew) := ⟨KP0.out.trans (Kp.of_below (below_drew1 (Below.refl _ _)))⟩
        clear OO0 RW0 RL0 KP0 hx1
        refine start_ (n := 14) (S := fun w' => w'.cell? ⟨gm, 0, none⟩ = some (.func (.func 40) #[] (capsM gn go gm))) (ds := []) #[false, false, false, false, false, false, false, false, false, false, false, false, false, false] (by kernel_rfl) rfl rfl ((blk_cell OO.out.km 0).trans rfl) (fun hHeld => ?_)
        refine with_tabW impl_wordsOf_1.tab5 impl_wordsOf_1.bits5 (fun HT_ HW_ => ?_)
        generalize wr.drew = w0 at OO RW RL KP hHeld ⊢
        have HD := Aside0.mk (Below.refl w0.heap.size w0)
        refine pure_ (i := 1) (N := some 29) (v := ?_) (a' := ?_) #[false, true, false, false, false, false, false, false, false, false, false, false, false, false] rfl rfl (any_of HT_.out (by kernel_rfl)) (fun _ _ _ h => h) (Or.inl ⟨by rfl, ?_⟩) ?_ ?_
        rotate_left
        · intro w'
          go_simp
          with_reducible rfl
        rotate_left
        · simp only [Act.put, List.setIfInBounds_toArray, List.set_cons_zero, List.set_cons_succ, i64_w, i32_w]
          rfl
        refine pure_ (i := 3) (N := some 31) (v := ?_) (a' := ?_) #[false, true, false, true, false, false, false, false, false, false, false, false, false, false] rfl rfl (any_of HT_.out (by kernel_rfl)) (fun _ _ _ h => h) (Or.inl ⟨by rfl, ?_⟩) ?_ ?_
        rotate_left
        · intro w'
          go_simp
          with_reducible rfl
        rotate_left
        · simp only [Act.put, List.setIfInBounds_toArray, List.set_cons_zero, List.set_cons_succ, i64_w, i32_w]
          rfl
        refine pure_ (i := 6) (N := some 34) (v := ?_) (a' := ?_) #[false, true, false, true, false, false, true, false, false, false, false, false, false, false] rfl rfl (any_of HT_.out (by kernel_rfl)) (fun _ _ _ h => h) (Or.inl ⟨by rfl, ?_⟩) ?_ ?_
        rotate_left
        · intro w'
          go_simp
          with_reducible rfl
        rotate_left
        · simp only [Act.put, List.setIfInBounds_toArray, List.set_cons_zero, List.set_cons_succ, i64_w, i32_w]
          rfl
        refine pure_ (i := 8) (N := some 36) (v := ?_) (a' := ?_) #[false, true, false, true, false, false, true, false, true, false, false, false, false, false] rfl rfl (any_of HT_.out (by kernel_rfl)) (fun _ _ _ h => h) (Or.inl ⟨by rfl, ?_⟩) ?_ ?_
        rotate_left
        · intro w'
          go_simp
          with_reducible rfl
        rotate_left
        · simp only [Act.put, List.setIfInBounds_toArray, List.set_cons_zero, List.set_cons_succ, i64_w, i32_w]
          rfl
        refine pure_ (i := 9) (N := some 37) (v := ?_) (a' := ?_) #[false, true, false, true, false, false, true, false, true, true, false, false, false, false] rfl rfl (any_of HT_.out (by kernel_rfl)) (fun _ _ _ h => h) (Or.inl ⟨by rfl, ?_⟩) ?_ ?_
        rotate_left
        · intro w'
          go_simp
          with_reducible rfl
        rotate_left
        · simp only [Act.put, List.setIfInBounds_toArray, List.set_cons_zero, List.set_cons_succ, i64_w, i32_w]
          rfl
        refine pure_ (i := 10) (N := some 38) (v := ?_) (a' := ?_) #[false, true, false, true, false, false, true, false, true, true, true, false, false, false] rfl rfl (any_of HT_.out (by kernel_rfl)) (fun _ _ _ h => h) (Or.inl ⟨by rfl, ?_⟩) ?_ ?_
        rotate_left
        · intro w'
          go_simp
          with_reducible rfl
        rotate_left
        · simp only [Act.put, List.setIfInBounds_toArray, List.set_cons_zero, List.set_cons_succ, i64_w, i32_w]
          rfl
        refine pure_ (i := 12) (N := some 40) (v := ?_) (a' := ?_) #[false, true, false, true, false, false, true, false, true, true, true, false, true, false] rfl rfl (any_of HT_.out (by kernel_rfl)) (fun _ _ _ h => h) (Or.inl ⟨by rfl, ?_⟩) ?_ ?_
        rotate_left
        · intro w'
          go_simp
          with_reducible rfl
        rotate_left
        · simp only [Act.put, List.setIfInBounds_toArray, List.set_cons_zero, List.set_cons_succ, i64_w, i32_w]
          rfl
        refine take_ (i := 0) (N := some 28) (v := ?_) (a' := ?_) #[true, true, false, true, false, false, true, false, true, true, true, false, true, false] rfl rfl (take_ofW HT_.out HW_.out (by kernel_rfl)) (fun _ _ _ h => h) (Or.inl ⟨by rfl, ?_⟩) hHeld ?_ ?_
        rotate_left
        · intro w' s0
          go_simp
          with_reducible rfl
        rotate_left
        · simp only [Act.put, List.setIfInBounds_toArray, List.set_cons_zero, List.set_cons_succ, i64_w, i32_w]
          rfl
        refine join_ (σ := Nat) 4 #[true, true, true, true, true, false, true, false, true, true, true, false, true, false] (fun s => [(30, .slice Aw l.length l.length), (32, .slice (some ⟨s, 0, none⟩) 1 1)]) (fun s w' => w'.heap[s]? = some (.cells #[.int .i64 (x)] 2 (0, 0)) ∧ Below w0.heap.size w0 w') ?_ ?_
        rotate_left
        · intro hCont
          refine two_ (i := 2) (j := 4) (Ni := some 30) (Nj := some 32) #[true, true, true, true, false, false, true, false, true, true, true, false, true, false] #[true, true, false, true, true, false, true, false, true, true, true, false, true, false] rfl rfl rfl rfl (two_of HT_.out (by kernel_rfl)) (by decide) (by decide) (fun K hK => ?_) (fun K hK => ?_)
          · skip
            refine goes_ Try.func42 (by kernel_rfl) rfl #[.slice Aw l.length cw] (by rfl) rfl rfl (by simp only [List.map_toArray, List.map_cons, List.map_nil]; rfl) ?_
            with_reducible refine (slices_Clip_int64_int64.calls Aw l.length cw _ (RI.cap RW.out).1 (RI.cap RW.out).2.1 (RI.cap RW.out).2.2).mono ?_
            rintro e w_ ⟨rfl, rfl⟩
            refine ⟨_, rfl, ?_⟩
            refine hK.out _ _ ((blk_cell (blk_below OO.out.km HD.out) 0).trans rfl) (fun hHeld => ?_)
            clear hK K
            refine norm_ (a' := ?_) ?_ ?_
            rotate_left
            · show Act.put _ (some 30) _ = _
              simp only [Act.put, List.setIfInBounds_toArray, List.set_cons_zero, List.set_cons_succ, i64_w, i32_w]
              rfl
            refine one_ (i := 4) (N := some 32) #[true, true, true, true, true, false, true, false, true, true, true, false, true, false] rfl rfl (one_of HT_.out (by kernel_rfl)) (by decide) (fun K hK => ?_)
            refine lit1_step (x) (by rfl) ?hr ?_
            case hr => first | (go_simp; done) | (go_simp; rfl)
            intro g4 w4 hk4 hb4
            have n_ := Aside0.mk (below_step HD.out hb4)
            clear HD
            have HD := n_
            clear n_
            have L4 := Aside0.mk hk4
            clear hk4 hb4
            refine hK.out _ _ ((blk_cell (blk_below OO.out.km HD.out) 0).trans rfl) (fun hHeld => ?_)
            clear hK K
            refine norm_ (a' := ?_) ?_ ?_
            rotate_left
            · show Act.put _ (some 32) _ = _
              simp only [Act.put, List.setIfInBounds_toArray, List.set_cons_zero, List.set_cons_succ, i64_w, i32_w]
              rfl
            exact norm_ (by simp only [putAll, Act.put, List.setIfInBounds_toArray, List.set_cons_zero, List.set_cons_succ]) (hCont g4 _ ⟨L4.out, HD.out⟩)
          · skip
            refine lit1_step (x) (by rfl) ?hr ?_
            case hr => first | (go_simp; done) | (go_simp; rfl)
            intro g4 w4 hk4 hb4
            have n_ := Aside0.mk (below_step HD.out hb4)
            clear HD
            have HD := n_
            clear n_
            have L4 := Aside0.mk hk4
            clear hk4 hb4
            refine hK.out _ _ ((blk_cell (blk_below OO.out.km HD.out) 0).trans rfl) (fun hHeld => ?_)
            clear hK K
            refine norm_ (a' := ?_) ?_ ?_
            rotate_left
            · show Act.put _ (some 32) _ = _
              simp only [Act.put, List.setIfInBounds_toArray, List.set_cons_zero, List.set_cons_succ, i64_w, i32_w]
              rfl
            refine one_ (i := 2) (N := some 30) #[true, true, true, true, true, false, true, false, true, true, true, false, true, false] rfl rfl (one_of HT_.out (by kernel_rfl)) (by decide) (fun K hK => ?_)
            refine goes_ Try.func42 (by kernel_rfl) rfl #[.slice Aw l.length cw] (by rfl) rfl rfl (by simp only [List.map_toArray, List.map_cons, List.map_nil]; rfl) ?_
            with_reducible refine (slices_Clip_int64_int64.calls Aw l.length cw _ (RI.cap RW.out).1 (RI.cap RW.out).2.1 (RI.cap RW.out).2.2).mono ?_
            rintro e w_ ⟨rfl, rfl⟩
            refine ⟨_, rfl, ?_⟩
            refine hK.out _ _ ((blk_cell (blk_below OO.out.km HD.out) 0).trans rfl) (fun hHeld => ?_)
            clear hK K
            refine norm_ (a' := ?_) ?_ ?_
            rotate_left
            · show Act.put _ (some 30) _ = _
              simp only [Act.put, List.setIfInBounds_toArray, List.set_cons_zero, List.set_cons_succ, i64_w, i32_w]
              rfl
            exact norm_ (by simp only [putAll, Act.put, List.setIfInBounds_toArray, List.set_cons_zero, List.set_cons_succ]) (hCont g4 _ ⟨L4.out, HD.out⟩)
        rintro g4 wj ⟨hk4, hbj⟩
        have hHeld : wj.cell? ⟨gm, 0, none⟩ = some (.func (.func 40) #[] (capsM gn go gm)) := (blk_cell (blk_below OO.out.km hbj) 0).trans rfl
        have L4 := Aside0.mk hk4
        have BJ := Aside0.mk hbj
        clear hk4 hbj HD
        refine norm_ (a' := ?_) ?_ ?_
        rotate_left
        · simp only [putAll, Act.put, List.setIfInBounds_toArray, List.set_cons_zero, List.set_cons_succ]
          rfl
        refine one_ (i := 5) (N := some 33) #[true, true, true, true, true, true, true, false, true, true, true, false, true, false] rfl rfl (one_of HT_.out (by kernel_rfl)) (by decide) (fun K hK => ?_)
        refine clip_step Aw cw l (x) g4 (base := 0) (.tmp 30) (.tmp 32) rfl rfl (Kd.R_below RW.out BJ.out) rfl rfl L4.out ?aL ?_
        (case aL => have := HL.out; have := HN.out; omega)
        intro A5 c5 w5 hr5 hb5
        have R5 := Aside0.mk hr5
        have B5 := Aside0.mk (below_step BJ.out hb5)
        clear hr5 hb5 L4 BJ
        refine hK.out _ _ ((blk_cell (blk_below OO.out.km B5.out) 0).trans rfl) (fun hHeld => ?_)
        clear hK K
        refine norm_ (a' := ?_) ?_ ?_
        rotate_left
        · show Act.put _ (some 33) _ = _
          simp only [Act.put, List.setIfInBounds_toArray, List.set_cons_zero, List.set_cons_succ, i64_w, i32_w]
          rfl
        refine one_ (i := 7) (N := some 35) #[true, true, true, true, true, true, true, true, true, true, true, false, true, false] rfl rfl (one_of HT_.out (by kernel_rfl)) (by decide) (fun K hK => ?_)
        refine goes_ Try.func41 (by kernel_rfl) rfl #[.slice (some ⟨gl, 0, none⟩) left.length cl] (by rfl) rfl rfl (by simp only [List.map_toArray, List.map_cons, List.map_nil]; rfl) ?_
        with_reducible refine (slices_Clone_int64_int64.calls _ _ left left _ (Kd.R_reads' (Kd.R_below RL.out B5.out)).2.2 (Kd.R_reads' RL.out).2.1 FL.out).mono ?_
        rintro e w7 ⟨v7, rfl, ho7, hb7⟩
        refine ⟨_, rfl, ?_⟩
        have R57 := Aside0.mk (Kd.R_below (Kd.R_mono (ok' := fun k_ => k_ < w5.heap.size) (Kd.R_bound R5.out) (fun k_ hk_ => hk_.2.2.1)) hb7)
        have R7 := Aside0.mk ho7
        have B7 := Aside0.mk (below_step B5.out hb7)
        have Z7 := Aside0.mk (Nat.le_trans B5.out.size (Nat.le_refl _))
        clear ho7 hb7 R5
        obtain ⟨g7, c7, e7, hg7, hl7, _⟩ := Kd.R_form R7.out (show 0 < left.length by omega)
        subst e7
        have G7 := Aside0.mk hg7
        clear hg7 hl7
        refine hK.out _ _ ((blk_cell (blk_below OO.out.km B7.out) 0).trans rfl) (fun hHeld => ?_)
        clear hK K
        refine norm_ (a' := ?_) ?_ ?_
        rotate_left
        · show Act.put _ (some 35) _ = _
          simp only [Act.put, List.setIfInBounds_toArray, List.set_cons_zero, List.set_cons_succ, i64_w, i32_w]
          rfl
        refine one_ (i := 11) (N := some 39) #[true, true, true, true, true, true, true, true, true, true, true, true, true, false] rfl rfl (one_of HT_.out (by kernel_rfl)) (by decide) (fun K hK => ?_)
        refine goes_ Try.func43 (by kernel_rfl) rfl #[.slice (some ⟨g7, 0, none⟩) left.length c7, .int .i64 k, .int .i64 (wrap64 ((k : Int) + 1))] (by rfl) rfl rfl (by simp only [List.map_toArray, List.map_cons, List.map_nil]; rfl) ?_
        rw [E5.out]
        with_reducible refine (slices_Delete_int64_int64.calls g7 c7 k j _ _ left _ R7.out hk HJ.out ML.out).mono ?_
        rintro e w11 ⟨rfl, ho11, hg11⟩
        refine ⟨_, rfl, ?_⟩
        have R11 := Aside0.mk ho11
        have R511 := Aside0.mk (Kd.R_grown R57.out hg11 (fun k_ hk_ e_ => by have h1_ := Option.some.inj e_; have h2_ := G7.out; omega))
        have B11 : Aside0 (Below w0.heap.size w0 w11) := ⟨B7.out.grown hg11 B7.out.size (fun k_ hk_ => by cases hk_; have h1_ := G7.out; have h2_ := B5.out.size; omega)⟩
        clear ho11 hg11 R57 R7 B7 B5
        refine hK.out _ _ ((blk_cell (blk_below OO.out.km B11.out) 0).trans rfl) (fun hHeld => ?_)
        clear hK K
        refine norm_ (a' := ?_) ?_ ?_
        rotate_left
        · show Act.put _ (some 39) _ = _
          simp only [Act.put, List.setIfInBounds_toArray, List.set_cons_zero, List.set_cons_succ, i64_w, i32_w]
          rfl
        refine one_ (i := 13) (N := some 41) #[true, true, true, true, true, true, true, true, true, true, true, true, true, true] rfl rfl (one_of HT_.out (by kernel_rfl)) (by decide) (fun K hK => ?_)
        refine goesV_ Try.func40 (by kernel_rfl) rfl #[.slice A5 (l.length + 1) c5, .slice (some ⟨g7, 0, none⟩) (left.length - 1) c7, .int .i64 next] (by rfl) rfl rfl rfl (by simp only [List.map_toArray, List.map_cons, List.map_nil]; rfl) ?_
        refine (IH.out (l ++ [x]) (left.eraseIdx k) next (rows ++ loopF n d l left next k) _ _ A c _ ?i1 ?i2 HX.out ?i3 (OO.out.below B11.out) (Kd.R_lower (Kd.R_mono R511.out (fun _ _ => trivial)) (Nat.zero_le _)) (Kd.R_lower R11.out (Nat.zero_le _))).mono ?_
        (case i1 => rw [List.length_append, List.length_singleton]; have := HL.out; omega)
        (case i2 => rw [List.length_append, List.length_singleton, List.length_eraseIdx, if_pos hk]; have := HE.out; omega)
        (case i3 => have h1_ := LN.out; have h2_ := loopF_le n d l left next k hk; rw [XV.out] at h2_; rw [List.length_append]; omega)
        rintro e w13 ⟨rfl, A13, c13, hO13, hk13⟩
        refine ⟨_, rfl, ?_⟩
        have OO13 := Aside0.mk hO13
        have KP13 := Aside0.mk ((Kp.of_below B11.out).trans hk13)
        clear hO13 hk13 R11 R511 B11 OO
        refine hK.out _ _ ((blk_cell OO13.out.km 0).trans rfl) (fun hHeld => ?_)
        clear hK K
        refine norm_ (a' := ?_) ?_ ?_
        rotate_left
        · show Act.put _ (some 41) _ = _
          simp only [Act.put, List.setIfInBounds_toArray, List.set_cons_zero, List.set_cons_succ, i64_w, i32_w]
          rfl
        refine done_ (done_of HT_.out (by kernel_rfl)) ?_
        try go_wp2
        go_roundg k1
        case measure => omega
        case rel => exact ⟨j, A13, c13, congrArg (Value.int .i64) E5.out, ⟨by have := HJ.out; omega⟩, ⟨by have := HJ.out; have := KQ.out; omega⟩, ⟨by have h := OO13.out; rw [HJ.out, loopF_succ, XV.out, ← List.append_assoc]; exact h⟩, ⟨RI.kp RW.out KP13.out⟩, ⟨RI.kp RL.out KP13.out⟩, ⟨KP.out.trans KP13.out⟩⟩
      · have c1 : decide ((k : Int) < (left.length : Int)) = false := decide_eq_false (by omega)
        have c2 : decide (k < left.length) = false := decide_eq_false hk
        have hke : k = left.length := by have := KL.out; omega
        clear KQ KL hk
        subst hke
        have hcn : wr.cell? ⟨gn, 0, none⟩ = some (.int .i64 n) := (blk_cell OO0.out.kn 0).trans rfl
        by_cases hnx : next < n
        · have d1 : decide ((next : Int) < (n : Int)) = true := decide_eq_true (by omega)
          have d2 : decide (next < n) = true := decide_eq_true hnx
          obtain ⟨nx, hj⟩ : ∃ nx, nx = next + 1 := ⟨_, rfl⟩
          have HNX := Aside0.mk hj
          have E6 : Aside0 (wrap64 ((next : Int) + 1) = (nx : Int)) := ⟨by have := HN.out; unfold wrap64; omega⟩
          clear hj
          go_wp2_with fail
          have OO := Aside0.mk (OO0.out.below (below_drew1 (Below.refl _ _)))
          have RW : Aside0 (RI wr.drew 0 (.slice Aw l.length cw) l) := ⟨Kd.R_drew RW0.out⟩
          have RL : Aside0 (RI wr.drew 0 (.slice Al left.length cl) left) := ⟨Kd.R_drew RL0.out⟩
          have KP : Aside0 (Kp B W wr.drew) := ⟨KP0.out.trans (Kp.of_below (below_drew1 (Below.refl _ _)))⟩
          clear OO0 RW0 RL0 KP0 hcn
          refine start_ (n := 14) (S := fun w' => w'.cell? ⟨gm, 0, none⟩ = some (.func (.func 40) #[] (capsM gn go gm))) (ds := []) #[false, false, false, false, false, false, false, false, false, false, false, false, false, false] (by kernel_rfl) rfl rfl ((blk_cell OO.out.km 0).trans rfl) (fun hHeld => ?_)
          refine with_tabW impl_wordsOf_1.tab8 impl_wordsOf_1.bits8 (fun HT_ HW_ => ?_)
          generalize wr.drew = w0 at OO RW RL KP hHeld ⊢
          have HD := Aside0.mk (Below.refl w0.heap.size w0)
          refine pure_ (i := 1) (N := some 47) (v := ?_) (a' := ?_) #[false, true, false, false, false, false, false, false, false, false, false, false, false, false] rfl rfl (any_of HT_.out (by kernel_rfl)) (fun _ _ _ h => h) (Or.inl ⟨by rfl, ?_⟩) ?_ ?_
          rotate_left
          · intro w'
            go_simp
            with_reducible rfl
          rotate_left
          · simp only [Act.put, List.setIfInBounds_toArray, List.set_cons_zero, List.set_cons_succ, i64_w, i32_w]
            rfl
          refine pure_ (i := 3) (N := some 49) (v := ?_) (a' := ?_) #[false, true, false, true, false, false, false, false, false, false, false, false, false, false] rfl rfl (any_of HT_.out (by kernel_rfl)) (fun _ _ _ h => h) (Or.inl ⟨by rfl, ?_⟩) ?_ ?_
          rotate_left
          · intro w'
            go_simp
            with_reducible rfl
          rotate_left
          · simp only [Act.put, List.setIfInBounds_toArray, List.set_cons_zero, List.set_cons_succ, i64_w, i32_w]
            rfl
          refine pure_ (i := 6) (N := some 52) (v := ?_) (a' := ?_) #[false, true, false, true, false, false, true, false, false, false, false, false, false, false] rfl rfl (any_of HT_.out (by kernel_rfl)) (fun _ _ _ h => h) (Or.inl ⟨by rfl, ?_⟩) ?_ ?_
          rotate_left
          · intro w'
            go_simp
            with_reducible rfl
          rotate_left
          · simp only [Act.put, List.setIfInBounds_toArray, List.set_cons_zero, List.set_cons_succ, i64_w, i32_w]
            rfl
          refine pure_ (i := 8) (N := some 54) (v := ?_) (a' := ?_) #[false, true, false, true, false, false, true, false, true, false, false, false, false, false] rfl rfl (any_of HT_.out (by kernel_rfl)) (fun _ _ _ h => h) (Or.inl ⟨by rfl, ?_⟩) ?_ ?_
          rotate_left
          · intro w'
            go_simp
            with_reducible rfl
          rotate_left
          · simp only [Act.put, List.setIfInBounds_toArray, List.set_cons_zero, List.set_cons_succ, i64_w, i32_w]
            rfl
          refine pure_ (i := 11) (N := some 57) (v := ?_) (a' := ?_) #[false, true, false, true, false, false, true, false, true, false, false, true, false, false] rfl rfl (any_of HT_.out (by kernel_rfl)) (fun _ _ _ h => h) (Or.inl ⟨by rfl, ?_⟩) ?_ ?_
          rotate_left
          · intro w'
            go_simp
            with_reducible rfl
          rotate_left
          · simp only [Act.put, List.setIfInBounds_toArray, List.set_cons_zero, List.set_cons_succ, i64_w, i32_w]
            rfl
          refine pure_ (i := 12) (N := some 58) (v := ?_) (a' := ?_) #[false, true, false, true, false, false, true, false, true, false, false, true, true, false] rfl rfl (any_of HT_.out (by kernel_rfl)) (fun _ _ _ h => h) (Or.inl ⟨by rfl, ?_⟩) ?_ ?_
          rotate_left
          · intro w'
            go_simp
            with_reducible rfl
          rotate_left
          · simp only [Act.put, List.setIfInBounds_toArray, List.set_cons_zero, List.set_cons_succ, i64_w, i32_w]
            rfl
          refine take_ (i := 0) (N := some 46) (v := ?_) (a' := ?_) #[true, true, false, true, false, false, true, false, true, false, false, true, true, false] rfl rfl (take_ofW HT_.out HW_.out (by kernel_rfl)) (fun _ _ _ h => h) (Or.inl ⟨by rfl, ?_⟩) hHeld ?_ ?_
          rotate_left
          · intro w' s0
            go_simp
            with_reducible rfl
          rotate_left
          · simp only [Act.put, List.setIfInBounds_toArray, List.set_cons_zero, List.set_cons_succ, i64_w, i32_w]
            rfl
          refine join_ (σ := Nat × Nat × Option Addr × Nat) 2 #[true, true, true, true, true, true, true, true, true, true, false, true, true, false] (fun s => [(48, .slice Aw l.length l.length), (50, .slice (some ⟨s.1, 0, none⟩) 1 1), (51, .slice s.2.2.1 (l.length + 1) s.2.2.2), (53, .slice Al left.length left.length), (55, .slice (some ⟨s.2.1, 0, none⟩) 1 1)]) (fun s w' => w'.heap[s.2.1]? = some (.cells #[.int .i64 (next : Int)] 2 (0, 0)) ∧ RI w' 0 (.slice s.2.2.1 (l.length + 1) s.2.2.2) (l ++ [(next : Int)]) ∧ Below w0.heap.size w0 w') ?_ ?_
          rotate_left
          · intro hCont
            refine three_ (i := 2) (j := 4) (k := 9) (Ni := some 48) (Nj := some 50) (Nk := some 55) #[true, true, true, true, false, false, true, false, true, false, false, true, true, false] #[true, true, false, true, true, false, true, false, true, false, false, true, true, false] #[true, true, false, true, false, false, true, false, true, true, false, true, true, false] rfl rfl rfl rfl rfl rfl (three_of HT_.out (by kernel_rfl)) (by decide) (by decide) (by decide) (fun K hK => ?_) (fun K hK => ?_) (fun K hK => ?_)
            · skip
              refine goes_ Try.func42 (by kernel_rfl) rfl #[.slice Aw l.length cw] (by rfl) rfl rfl (by simp only [List.map_toArray, List.map_cons, List.map_nil]; rfl) ?_
              with_reducible refine (slices_Clip_int64_int64.calls Aw l.length cw _ (RI.cap RW.out).1 (RI.cap RW.out).2.1 (RI.cap RW.out).2.2).mono ?_
              rintro e w_ ⟨rfl, rfl⟩
              refine ⟨_, rfl, ?_⟩
              refine hK.out _ _ ((blk_cell (blk_below OO.out.km HD.out) 0).trans rfl) (fun hHeld => ?_)
              clear hK K
              refine norm_ (a' := ?_) ?_ ?_
              rotate_left
              · show Act.put _ (some 48) _ = _
                simp only [Act.put, List.setIfInBounds_toArray, List.set_cons_zero, List.set_cons_succ, i64_w, i32_w]
                rfl
              refine two_ (i := 4) (j := 9) (Ni := some 50) (Nj := some 55) #[true, true, true, true, true, false, true, false, true, false, false, true, true, false] #[true, true, true, true, false, false, true, false, true, true, false, true, true, false] rfl rfl rfl rfl (two_of HT_.out (by kernel_rfl)) (by decide) (by decide) (fun K hK => ?_) (fun K hK => ?_)
              · skip
                refine lit1_step (next : Int) (by rfl) ?hr ?_
                case hr => first | (go_simp; done) | (go_simp; rfl)
                intro g4 w4 hk4 hb4
                have n_ := Aside0.mk (below_step HD.out hb4)
                clear HD
                have HD := n_
                clear n_
                have L4 := Aside0.mk hk4
                clear hk4 hb4
                refine hK.out _ _ ((blk_cell (blk_below OO.out.km HD.out) 0).trans rfl) (fun hHeld => ?_)
                clear hK K
                refine norm_ (a' := ?_) ?_ ?_
                rotate_left
                · show Act.put _ (some 50) _ = _
                  simp only [Act.put, List.setIfInBounds_toArray, List.set_cons_zero, List.set_cons_succ, i64_w, i32_w]
                  rfl
                refine two_ (i := 5) (j := 9) (Ni := some 51) (Nj := some 55) #[true, true, true, true, true, true, true, false, true, false, false, true, true, false] #[true, true, true, true, true, false, true, false, true, true, false, true, true, false] rfl rfl rfl rfl (two_of HT_.out (by kernel_rfl)) (by decide) (by decide) (fun K hK => ?_) (fun K hK => ?_)
                · skip
                  refine clip_step Aw cw l (next : Int) g4 (base := 0) (.tmp 48) (.tmp 50) rfl rfl (Kd.R_below RW.out HD.out) rfl rfl L4.out ?aL ?_
                  (case aL => have := HL.out; have := HN.out; omega)
                  intro A5 c5 w5 hr5 hb5
                  have R5 : Aside0 (RI w5 0 (.slice A5 (l.length + 1) c5) (l ++ [(next : Int)])) := ⟨Kd.R_lower hr5 (Nat.zero_le _)⟩
                  have n_ := Aside0.mk (below_step HD.out hb5)
                  clear HD
                  have HD := n_
                  clear n_
                  clear hr5 hb5
                  refine hK.out _ _ ((blk_cell (blk_below OO.out.km HD.out) 0).trans rfl) (fun hHeld => ?_)
                  clear hK K
                  refine norm_ (a' := ?_) ?_ ?_
                  rotate_left
                  · show Act.put _ (some 51) _ = _
                    simp only [Act.put, List.setIfInBounds_toArray, List.set_cons_zero, List.set_cons_succ, i64_w, i32_w]
                    rfl
                  refine two_ (i := 7) (j := 9) (Ni := some 53) (Nj := some 55) #[true, true, true, true, true, true, true, true, true, false, false, true, true, false] #[true, true, true, true, true, true, true, false, true, true, false, true, true, false] rfl rfl rfl rfl (two_of HT_.out (by kernel_rfl)) (by decide) (by decide) (fun K hK => ?_) (fun K hK => ?_)
                  · skip
                    refine goes_ Try.func42 (by kernel_rfl) rfl #[.slice Al left.length cl] (by rfl) rfl rfl (by simp only [List.map_toArray, List.map_cons, List.map_nil]; rfl) ?_
                    with_reducible refine (slices_Clip_int64_int64.calls Al left.length cl _ (RI.cap RL.out).1 (RI.cap RL.out).2.1 (RI.cap RL.out).2.2).mono ?_
                    rintro e w_ ⟨rfl, rfl⟩
                    refine ⟨_, rfl, ?_⟩
                    refine hK.out _ _ ((blk_cell (blk_below OO.out.km HD.out) 0).trans rfl) (fun hHeld => ?_)
                    clear hK K
                    refine norm_ (a' := ?_) ?_ ?_
                    rotate_left
                    · show Act.put _ (some 53) _ = _
                      simp only [Act.put, List.setIfInBounds_toArray, List.set_cons_zero, List.set_cons_succ, i64_w, i32_w]
                      rfl
                    refine one_ (i := 9) (N := some 55) #[true, true, true, true, true, true, true, true, true, true, false, true, true, false] rfl rfl (one_of HT_.out (by kernel_rfl)) (by decide) (fun K hK => ?_)
                    refine lit1_step (next : Int) (by rfl) ?hr ?_
                    case hr => first | (go_simp; done) | (go_simp; rfl)
                    intro g9 w9 hk9 hb9
                    have n_ := Aside0.mk (below_step HD.out hb9)
                    clear HD
                    have HD := n_
                    clear n_
                    have n_ := Aside0.mk (Kd.R_below R5.out hb9)
                    clear R5
                    have R5 := n_
                    clear n_
                    have L9 := Aside0.mk hk9
                    clear hk9 hb9
                    refine hK.out _ _ ((blk_cell (blk_below OO.out.km HD.out) 0).trans rfl) (fun hHeld => ?_)
                    clear hK K
                    refine norm_ (a' := ?_) ?_ ?_
                    rotate_left
                    · show Act.put _ (some 55) _ = _
                      simp only [Act.put, List.setIfInBounds_toArray, List.set_cons_zero, List.set_cons_succ, i64_w, i32_w]
                      rfl
                    exact norm_ (by simp only [putAll, Act.put, List.setIfInBounds_toArray, List.set_cons_zero, List.set_cons_succ]) (hCont (g4, g9, A5, c5) _ ⟨L9.out, R5.out, HD.out⟩)
                  · skip
                    refine lit1_step (next : Int) (by rfl) ?hr ?_
                    case hr => first | (go_simp; done) | (go_simp; rfl)
                    intro g9 w9 hk9 hb9
                    have n_ := Aside0.mk (below_step HD.out hb9)
                    clear HD
                    have HD := n_
                    clear n_
                    have n_ := Aside0.mk (Kd.R_below R5.out hb9)
                    clear R5
                    have R5 := n_
                    clear n_
                    have L9 := Aside0.mk hk9
                    clear hk9 hb9
                    refine hK.out _ _ ((blk_cell (blk_below OO.out.km HD.out) 0).trans rfl) (fun hHeld => ?_)
                    clear hK K
                    refine norm_ (a' := ?_) ?_ ?_
                    rotate_left
                    · show Act.put _ (some 55) _ = _
                      simp only [Act.put, List.setIfInBounds_toArray, List.set_cons_zero, List.set_cons_succ, i64_w, i32_w]
                      rfl
                    refine one_ (i := 7) (N := some 53) #[true, true, true, true, true, true, true, true, true, true, false, true, true, false] rfl rfl (one_of HT_.out (by kernel_rfl)) (by decide) (fun K hK => ?_)
                    refine goes_ Try.func42 (by kernel_rfl) rfl #[.slice Al left.length cl] (by rfl) rfl rfl (by simp only [List.map_toArray, List.map_cons, List.map_nil]; rfl) ?_
                    with_reducible refine (slices_Clip_int64_int64.calls Al left.length cl _ (RI.cap RL.out).1 (RI.cap RL.out).2.1 (RI.cap RL.out).2.2).mono ?_
                    rintro e w_ ⟨rfl, rfl⟩
                    refine ⟨_, rfl, ?_⟩
                    refine hK.out _ _ ((blk_cell (blk_below OO.out.km HD.out) 0).trans rfl) (fun hHeld => ?_)
                    clear hK K
                    refine norm_ (a' := ?_) ?_ ?_
                    rotate_left
                    · show Act.put _ (some 53) _ = _
                      simp only [Act.put, List.setIfInBounds_toArray, List.set_cons_zero, List.set_cons_succ, i64_w, i32_w]
                      rfl
                    exact norm_ (by simp only [putAll, Act.put, List.setIfInBounds_toArray, List.set_cons_zero, List.set_cons_succ]) (hCont (g4, g9, A5, c5) _ ⟨L9.out, R5.out, HD.out⟩)
                · skip
                  refine lit1_step (next : Int) (by rfl) ?hr ?_
                  case hr => first | (go_simp; done) | (go_simp; rfl)
                  intro g9 w9 hk9 hb9
                  have n_ := Aside0.mk (below_step HD.out hb9)
                  clear HD
                  have HD := n_
                  clear n_
                  have n_ := Aside0.mk (blk_below L4.out hb9)
                  clear L4
                  have L4 := n_
                  clear n_
                  have L9 := Aside0.mk hk9
                  clear hk9 hb9
                  refine hK.out _ _ ((blk_cell (blk_below OO.out.km HD.out) 0).trans rfl) (fun hHeld => ?_)
                  clear hK K
                  refine norm_ (a' := ?_) ?_ ?_
                  rotate_left
                  · show Act.put _ (some 55) _ = _
                    simp only [Act.put, List.setIfInBounds_toArray, List.set_cons_zero, List.set_cons_succ, i64_w, i32_w]
                    rfl
                  refine one_ (i := 5) (N := some 51) #[true, true, true, true, true, true, true, false, true, true, false, true, true, false] rfl rfl (one_of HT_.out (by kernel_rfl)) (by decide) (fun K hK => ?_)
                  refine clip_step Aw cw l (next : Int) g4 (base := 0) (.tmp 48) (.tmp 50) rfl rfl (Kd.R_below RW.out HD.out) rfl rfl L4.out ?aL ?_
                  (case aL => have := HL.out; have := HN.out; omega)
                  intro A5 c5 w5 hr5 hb5
                  have n_ := Aside0.mk (blk_below L9.out hb5)
                  clear L9
                  have L9 := n_
                  clear n_
                  have R5 : Aside0 (RI w5 0 (.slice A5 (l.length + 1) c5) (l ++ [(next : Int)])) := ⟨Kd.R_lower hr5 (Nat.zero_le _)⟩
                  have n_ := Aside0.mk (below_step HD.out hb5)
                  clear HD
                  have HD := n_
                  clear n_
                  clear hr5 hb5
                  refine hK.out _ _ ((blk_cell (blk_below OO.out.km HD.out) 0).trans rfl) (fun hHeld => ?_)
                  clear hK K
                  refine norm_ (a' := ?_) ?_ ?_
                  rotate_left
                  · show Act.put _ (some 51) _ = _
                    simp only [Act.put, List.setIfInBounds_toArray, List.set_cons_zero, List.set_cons_succ, i64_w, i32_w]
                    rfl
                  refine one_ (i := 7) (N := some 53) #[true, true, true, true, true, true, true, true, true, true, false, true, true, false] rfl rfl (one_of HT_.out (by kernel_rfl)) (by decide) (fun K hK => ?_)
                  refine goes_ Try.func42 (by kernel_rfl) rfl #[.slice Al left.length cl] (by rfl) rfl rfl (by simp only [List.map_toArray, List.map_cons, List.map_nil]; rfl) ?_
                  with_reducible refine (slices_Clip_int64_int64.calls Al left.length cl _ (RI.cap RL.out).1 (RI.cap RL.out).2.1 (RI.cap RL.out).2.2).mono ?_
                  rintro e w_ ⟨rfl, rfl⟩
                  refine ⟨_, rfl, ?_⟩
                  refine hK.out _ _ ((blk_cell (blk_below OO.out.km HD.out) 0).trans rfl) (fun hHeld => ?_)
                  clear hK K
                  refine norm_ (a' := ?_) ?_ ?_
                  rotate_left
                  · show Act.put _ (some 53) _ = _
                    simp only [Act.put, List.setIfInBounds_toArray, List.set_cons_zero, List.set_cons_succ, i64_w, i32_w]
                    rfl
                  exact norm_ (by simp only [putAll, Act.put, List.setIfInBounds_toArray, List.set_cons_zero, List.set_cons_succ]) (hCont (g4, g9, A5, c5) _ ⟨L9.out, R5.out, HD.out⟩)
              · skip
                refine lit1_step (next : Int) (by rfl) ?hr ?_
                case hr => first | (go_simp; done) | (go_simp; rfl)
                intro g9 w9 hk9 hb9
                have n_ := Aside0.mk (below_step HD.out hb9)
                clear HD
                have HD := n_
                clear n_
                have L9 := Aside0.mk hk9
                clear hk9 hb9
                refine hK.out _ _ ((blk_cell (blk_below OO.out.km HD.out) 0).trans rfl) (fun hHeld => ?_)
                clear hK K
                refine norm_ (a' := ?_) ?_ ?_
                rotate_left
                · show Act.put _ (some 55) _ = _
                  simp only [Act.put, List.setIfInBounds_toArray, List.set_cons_zero, List.set_cons_succ, i64_w, i32_w]
                  rfl
                refine one_ (i := 4) (N := some 50) #[true, true, true, true, true, false, true, false, true, true, false, true, true, false] rfl rfl (one_of HT_.out (by kernel_rfl)) (by decide) (fun K hK => ?_)
                refine lit1_step (next : Int) (by rfl) ?hr ?_
                case hr => first | (go_simp; done) | (go_simp; rfl)
                intro g4 w4 hk4 hb4
                have n_ := Aside0.mk (below_step HD.out hb4)
                clear HD
                have HD := n_
                clear n_
                have n_ := Aside0.mk (blk_below L9.out hb4)
                clear L9
                have L9 := n_
                clear n_
                have L4 := Aside0.mk hk4
                clear hk4 hb4
                refine hK.out _ _ ((blk_cell (blk_below OO.out.km HD.out) 0).trans rfl) (fun hHeld => ?_)
                clear hK K
                refine norm_ (a' := ?_) ?_ ?_
                rotate_left
                · show Act.put _ (some 50) _ = _
                  simp only [Act.put, List.setIfInBounds_toArray, List.set_cons_zero, List.set_cons_succ, i64_w, i32_w]
                  rfl
                refine one_ (i := 5) (N := some 51) #[true, true, true, true, true, true, true, false, true, true, false, true, true, false] rfl rfl (one_of HT_.out (by kernel_rfl)) (by decide) (fun K hK => ?_)
                refine clip_step Aw cw l (next : Int) g4 (base := 0) (.tmp 48) (.tmp 50) rfl rfl (Kd.R_below RW.out HD.out) rfl rfl L4.out ?aL ?_
                (case aL => have := HL.out; have := HN.out; omega)
                intro A5 c5 w5 hr5 hb5
                have n_ := Aside0.mk (blk_below L9.out hb5)
                clear L9
                have L9 := n_
                clear n_
                have R5 : Aside0 (RI w5 0 (.slice A5 (l.length + 1) c5) (l ++ [(next : Int)])) := ⟨Kd.R_lower hr5 (Nat.zero_le _)⟩
                have n_ := Aside0.mk (below_step HD.out hb5)
                clear HD
                have HD := n_
                clear n_
                clear hr5 hb5
                refine hK.out _ _ ((blk_cell (blk_below OO.out.km HD.out) 0).trans rfl) (fun hHeld => ?_)
                clear hK K
                refine norm_ (a' := ?_) ?_ ?_
                rotate_left
                · show Act.put _ (some 51) _ = _
                  simp only [Act.put, List.setIfInBounds_toArray, List.set_cons_zero, List.set_cons_succ, i64_w, i32_w]
                  rfl
                refine one_ (i := 7) (N := some 53) #[true, true, true, true, true, true, true, true, true, true, false, true, true, false] rfl rfl (one_of HT_.out (by kernel_rfl)) (by decide) (fun K hK => ?_)
                refine goes_ Try.func42 (by kernel_rfl) rfl #[.slice Al left.length cl] (by rfl) rfl rfl (by simp only [List.map_toArray, List.map_cons, List.map_nil]; rfl) ?_
                with_reducible refine (slices_Clip_int64_int64.calls Al left.length cl _ (RI.cap RL.out).1 (RI.cap RL.out).2.1 (RI.cap RL.out).2.2).mono ?_
                rintro e w_ ⟨rfl, rfl⟩
                refine ⟨_, rfl, ?_⟩
                refine hK.out _ _ ((blk_cell (blk_below OO.out.km HD.out) 0).trans rfl) (fun hHeld => ?_)
                clear hK K
                refine norm_ (a' := ?_) ?_ ?_
                rotate_left
                · show Act.put _ (some 53) _ = _
                  simp only [Act.put, List.setIfInBounds_toArray, List.set_cons_zero, List.set_cons_succ, i64_w, i32_w]
                  rfl
                exact norm_ (by simp only [putAll, Act.put, List.setIfInBounds_toArray, List.set_cons_zero, List.set_cons_succ]) (hCont (g4, g9, A5, c5) _ ⟨L9.out, R5.out, HD.out⟩)
            · skip
              refine lit1_step (next : Int) (by rfl) ?hr ?_
              case hr => first | (go_simp; done) | (go_simp; rfl)
              intro g4 w4 hk4 hb4
              have n_ := Aside0.mk (below_step HD.out hb4)
              clear HD
              have HD := n_
              clear n_
              have L4 := Aside0.mk hk4
              clear hk4 hb4
              refine hK.out _ _ ((blk_cell (blk_below OO.out.km HD.out) 0).trans rfl) (fun hHeld => ?_)
              clear hK K
              refine norm_ (a' := ?_) ?_ ?_
              rotate_left
              · show Act.put _ (some 50) _ = _
                simp only [Act.put, List.setIfInBounds_toArray, List.set_cons_zero, List.set_cons_succ, i64_w, i32_w]
                rfl
              refine two_ (i := 2) (j := 9) (Ni := some 48) (Nj := some 55) #[true, true, true, true, true, false, true, false, true, false, false, true, true, false] #[true, true, false, true, true, false, true, false, true, true, false, true, true, false] rfl rfl rfl rfl (two_of HT_.out (by kernel_rfl)) (by decide) (by decide) (fun K hK => ?_) (fun K hK => ?_)
              · skip
                refine goes_ Try.func42 (by kernel_rfl) rfl #[.slice Aw l.length cw] (by rfl) rfl rfl (by simp only [List.map_toArray, List.map_cons, List.map_nil]; rfl) ?_
                with_reducible refine (slices_Clip_int64_int64.calls Aw l.length cw _ (RI.cap RW.out).1 (RI.cap RW.out).2.1 (RI.cap RW.out).2.2).mono ?_
                rintro e w_ ⟨rfl, rfl⟩
                refine ⟨_, rfl, ?_⟩
                refine hK.out _ _ ((blk_cell (blk_below OO.out.km HD.out) 0).trans rfl) (fun hHeld => ?_)
                clear hK K
                refine norm_ (a' := ?_) ?_ ?_
                rotate_left
                · show Act.put _ (some 48) _ = _
                  simp only [Act.put, List.setIfInBounds_toArray, List.set_cons_zero, List.set_cons_succ, i64_w, i32_w]
                  rfl
                refine two_ (i := 5) (j := 9) (Ni := some 51) (Nj := some 55) #[true, true, true, true, true, true, true, false, true, false, false, true, true, false] #[true, true, true, true, true, false, true, false, true, true, false, true, true, false] rfl rfl rfl rfl (two_of HT_.out (by kernel_rfl)) (by decide) (by decide) (fun K hK => ?_) (fun K hK => ?_)
                · skip
                  refine clip_step Aw cw l (next : Int) g4 (base := 0) (.tmp 48) (.tmp 50) rfl rfl (Kd.R_below RW.out HD.out) rfl rfl L4.out ?aL ?_
                  (case aL => have := HL.out; have := HN.out; omega)
                  intro A5 c5 w5 hr5 hb5
                  have R5 : Aside0 (RI w5 0 (.slice A5 (l.length + 1) c5) (l ++ [(next : Int)])) := ⟨Kd.R_lower hr5 (Nat.zero_le _)⟩
                  have n_ := Aside0.mk (below_step HD.out hb5)
                  clear HD
                  have HD := n_
                  clear n_
                  clear hr5 hb5
                  refine hK.out _ _ ((blk_cell (blk_below OO.out.km HD.out) 0).trans rfl) (fun hHeld => ?_)
                  clear hK K
                  refine norm_ (a' := ?_) ?_ ?_
                  rotate_left
                  · show Act.put _ (some 51) _ = _
                    simp only [Act.put, List.setIfInBounds_toArray, List.set_cons_zero, List.set_cons_succ, i64_w, i32_w]
                    rfl
                  refine two_ (i := 7) (j := 9) (Ni := some 53) (Nj := some 55) #[true, true, true, true, true, true, true, true, true, false, false, true, true, false] #[true, true, true, true, true, true, true, false, true, true, false, true, true, false] rfl rfl rfl rfl (two_of HT_.out (by kernel_rfl)) (by decide) (by decide) (fun K hK => ?_) (fun K hK => ?_)
                  · skip
                    refine goes_ Try.func42 (by kernel_rfl) rfl #[.slice Al left.length cl] (by rfl) rfl rfl (by simp only [List.map_toArray, List.map_cons, List.map_nil]; rfl) ?_
                    with_reducible refine (slices_Clip_int64_int64.calls Al left.length cl _ (RI.cap RL.out).1 (RI.cap RL.out).2.1 (RI.cap RL.out).2.2).mono ?_
                    rintro e w_ ⟨rfl, rfl⟩
                    refine ⟨_, rfl, ?_⟩
                    refine hK.out _ _ ((blk_cell (blk_below OO.out.km HD.out) 0).trans rfl) (fun hHeld => ?_)
                    clear hK K
                    refine norm_ (a' := ?_) ?_ ?_
                    rotate_left
                    · show Act.put _ (some 53) _ = _
                      simp only [Act.put, List.setIfInBounds_toArray, List.set_cons_zero, List.set_cons_succ, i64_w, i32_w]
                      rfl
                    refine one_ (i := 9) (N := some 55) #[true, true, true, true, true, true, true, true, true, true, false, true, true, false] rfl rfl (one_of HT_.out (by kernel_rfl)) (by decide) (fun K hK => ?_)
                    refine lit1_step (next : Int) (by rfl) ?hr ?_
                    case hr => first | (go_simp; done) | (go_simp; rfl)
                    intro g9 w9 hk9 hb9
                    have n_ := Aside0.mk (below_step HD.out hb9)
                    clear HD
                    have HD := n_
                    clear n_
                    have n_ := Aside0.mk (Kd.R_below R5.out hb9)
                    clear R5
                    have R5 := n_
                    clear n_
                    have L9 := Aside0.mk hk9
                    clear hk9 hb9
                    refine hK.out _ _ ((blk_cell (blk_below OO.out.km HD.out) 0).trans rfl) (fun hHeld => ?_)
                    clear hK K
                    refine norm_ (a' := ?_) ?_ ?_
                    rotate_left
                    · show Act.put _ (some 55) _ = _
                      simp only [Act.put, List.setIfInBounds_toArray, List.set_cons_zero, List.set_cons_succ, i64_w, i32_w]
                      rfl
                    exact norm_ (by simp only [putAll, Act.put, List.setIfInBounds_toArray, List.set_cons_zero, List.set_cons_succ]) (hCont (g4, g9, A5, c5) _ ⟨L9.out, R5.out, HD.out⟩)
                  · skip
                    refine lit1_step (next : Int) (by rfl) ?hr ?_
                    case hr => first | (go_simp; done) | (go_simp; rfl)
                    intro g9 w9 hk9 hb9
                    have n_ := Aside0.mk (below_step HD.out hb9)
                    clear HD
                    have HD := n_
                    clear n_
                    have n_ := Aside0.mk (Kd.R_below R5.out hb9)
                    clear R5
                    have R5 := n_
                    clear n_
                    have L9 := Aside0.mk hk9
                    clear hk9 hb9
                    refine hK.out _ _ ((blk_cell (blk_below OO.out.km HD.out) 0).trans rfl) (fun hHeld => ?_)
                    clear hK K
                    refine norm_ (a' := ?_) ?_ ?_
                    rotate_left
                    · show Act.put _ (some 55) _ = _
                      simp only [Act.put, List.setIfInBounds_toArray, List.set_cons_zero, List.set_cons_succ, i64_w, i32_w]
                      rfl
                    refine one_ (i := 7) (N := some 53) #[true, true, true, true, true, true, true, true, true, true, false, true, true, false] rfl rfl (one_of HT_.out (by kernel_rfl)) (by decide) (fun K hK => ?_)
                    refine goes_ Try.func42 (by kernel_rfl) rfl #[.slice Al left.length cl] (by rfl) rfl rfl (by simp only [List.map_toArray, List.map_cons, List.map_nil]; rfl) ?_
                    with_reducible refine (slices_Clip_int64_int64.calls Al left.length cl _ (RI.cap RL.out).1 (RI.cap RL.out).2.1 (RI.cap RL.out).2.2).mono ?_
                    rintro e w_ ⟨rfl, rfl⟩
                    refine ⟨_, rfl, ?_⟩
                    refine hK.out _ _ ((blk_cell (blk_below OO.out.km HD.out) 0).trans rfl) (fun hHeld => ?_)
                    clear hK K
                    refine norm_ (a' := ?_) ?_ ?_
                    rotate_left
                    · show Act.put _ (some 53) _ = _
                      simp only [Act.put, List.setIfInBounds_toArray, List.set_cons_zero, List.set_cons_succ, i64_w, i32_w]
                      rfl
                    exact norm_ (by simp only [putAll, Act.put, List.setIfInBounds_toArray, List.set_cons_zero, List.set_cons_succ]) (hCont (g4, g9, A5, c5) _ ⟨L9.out, R5.out, HD.out⟩)
                · skip
                  refine lit1_step (next : Int) (by rfl) ?hr ?_
                  case hr => first | (go_simp; done) | (go_simp; rfl)
                  intro g9 w9 hk9 hb9
                  have n_ := Aside0.mk (below_step HD.out hb9)
                  clear HD
                  have HD := n_
                  clear n_
                  have n_ := Aside0.mk (blk_below L4.out hb9)
                  clear L4
                  have L4 := n_
                  clear n_
                  have L9 := Aside0.mk hk9
                  clear hk9 hb9
                  refine hK.out _ _ ((blk_cell (blk_below OO.out.km HD.out) 0).trans rfl) (fun hHeld => ?_)
                  clear hK K
                  refine norm_ (a' := ?_) ?_ ?_
                  rotate_left
                  · show Act.put _ (some 55) _ = _
                    simp only [Act.put, List.setIfInBounds_toArray, List.set_cons_zero, List.set_cons_succ, i64_w, i32_w]
                    rfl
                  refine one_ (i := 5) (N := some 51) #[true, true, true, true, true, true, true, false, true, true, false, true, true, false] rfl rfl (one_of HT_.out (by kernel_rfl)) (by decide) (fun K hK => ?_)
                  refine clip_step Aw cw l (next : Int) g4 (base := 0) (.tmp 48) (.tmp 50) rfl rfl (Kd.R_below RW.out HD.out) rfl rfl L4.out ?aL ?_
                  (case aL => have := HL.out; have := HN.out; omega)
                  intro A5 c5 w5 hr5 hb5
                  have n_ := Aside0.mk (blk_below L9.out hb5)
                  clear L9
                  have L9 := n_
                  clear n_
                  have R5 : Aside0 (RI w5 0 (.slice A5 (l.length + 1) c5) (l ++ [(next : Int)])) := ⟨Kd.R_lower hr5 (Nat.zero_le _)⟩
                  have n_ := Aside0.mk (below_step HD.out hb5)
                  clear HD
                  have HD := n_
                  clear n_
                  clear hr5 hb5
                  refine hK.out _ _ ((blk_cell (blk_below OO.out.km HD.out) 0).trans rfl) (fun hHeld => ?_)
                  clear hK K
                  refine norm_ (a' := ?_) ?_ ?_
                  rotate_left
                  · show Act.put _ (some 51) _ = _
                    simp only [Act.put, List.setIfInBounds_toArray, List.set_cons_zero, List.set_cons_succ, i64_w, i32_w]
                    rfl
                  refine one_ (i := 7) (N := some 53) #[true, true, true, true, true, true, true, true, true, true, false, true, true, false] rfl rfl (one_of HT_.out (by kernel_rfl)) (by decide) (fun K hK => ?_)
                  refine goes_ Try.func42 (by kernel_rfl) rfl #[.slice Al left.length cl] (by rfl) rfl rfl (by simp only [List.map_toArray, List.map_cons, List.map_nil]; rfl) ?_
                  with_reducible refine (slices_Clip_int64_int64.calls Al left.length cl _ (RI.cap RL.out).1 (RI.cap RL.out).2.1 (RI.cap RL.out).2.2).mono ?_
                  rintro e w_ ⟨rfl, rfl⟩
                  refine ⟨_, rfl, ?_⟩
                  refine hK.out _ _ ((blk_cell (blk_below OO.out.km HD.out) 0).trans rfl) (fun hHeld => ?_)
                  clear hK K
                  refine norm_ (a' := ?_) ?_ ?_
                  rotate_left
                  · show Act.put _ (some 53) _ = _
                    simp only [Act.put, List.setIfInBounds_toArray, List.set_cons_zero, List.set_cons_succ, i64_w, i32_w]
                    rfl
                  exact norm_ (by simp only [putAll, Act.put, List.setIfInBounds_toArray, List.set_cons_zero, List.set_cons_succ]) (hCont (g4, g9, A5, c5) _ ⟨L9.out, R5.out, HD.out⟩)
              · skip
                refine lit1_step (next : Int) (by rfl) ?hr ?_
                case hr => first | (go_simp; done) | (go_simp; rfl)
                intro g9 w9 hk9 hb9
                have n_ := Aside0.mk (below_step HD.out hb9)
                clear HD
                have HD := n_
                clear n_
                have n_ := Aside0.mk (blk_below L4.out hb9)
                clear L4
                have L4 := n_
                clear n_
                have L9 := Aside0.mk hk9
                clear hk9 hb9
                refine hK.out _ _ ((blk_cell (blk_below OO.out.km HD.out) 0).trans rfl) (fun hHeld => ?_)
                clear hK K
                refine norm_ (a' := ?_) ?_ ?_
                rotate_left
                · show Act.put _ (some 55) _ = _
                  simp only [Act.put, List.setIfInBounds_toArray, List.set_cons_zero, List.set_cons_succ, i64_w, i32_w]
                  rfl
                refine one_ (i := 2) (N := some 48) #[true, true, true, true, true, false, true, false, true, true, false, true, true, false] rfl rfl (one_of HT_.out (by kernel_rfl)) (by decide) (fun K hK => ?_)
                refine goes_ Try.func42 (by kernel_rfl) rfl #[.slice Aw l.length cw] (by rfl) rfl rfl (by simp only [List.map_toArray, List.map_cons, List.map_nil]; rfl) ?_
                with_reducible refine (slices_Clip_int64_int64.calls Aw l.length cw _ (RI.cap RW.out).1 (RI.cap RW.out).2.1 (RI.cap RW.out).2.2).mono ?_
                rintro e w_ ⟨rfl, rfl⟩
                refine ⟨_, rfl, ?_⟩
                refine hK.out _ _ ((blk_cell (blk_below OO.out.km HD.out) 0).trans rfl) (fun hHeld => ?_)
                clear hK K
                refine norm_ (a' := ?_) ?_ ?_
                rotate_left
                · show Act.put _ (some 48) _ = _
                  simp only [Act.put, List.setIfInBounds_toArray, List.set_cons_zero, List.set_cons_succ, i64_w, i32_w]
                  rfl
                refine one_ (i := 5) (N := some 51) #[true, true, true, true, true, true, true, false, true, true, false, true, true, false] rfl rfl (one_of HT_.out (by kernel_rfl)) (by decide) (fun K hK => ?_)
                refine clip_step Aw cw l (next : Int) g4 (base := 0) (.tmp 48) (.tmp 50) rfl rfl (Kd.R_below RW.out HD.out) rfl rfl L4.out ?aL ?_
                (case aL => have := HL.out; have := HN.out; omega)
                intro A5 c5 w5 hr5 hb5
                have n_ := Aside0.mk (blk_below L9.out hb5)
                clear L9
                have L9 := n_
                clear n_
                have R5 : Aside0 (RI w5 0 (.slice A5 (l.length + 1) c5) (l ++ [(next : Int)])) := ⟨Kd.R_lower hr5 (Nat.zero_le _)⟩
                have n_ := Aside0.mk (below_step HD.out hb5)
                clear HD
                have HD := n_
                clear n_
                clear hr5 hb5
                refine hK.out _ _ ((blk_cell (blk_below OO.out.km HD.out) 0).trans rfl) (fun hHeld => ?_)
                clear hK K
                refine norm_ (a' := ?_) ?_ ?_
                rotate_left
                · show Act.put _ (some 51) _ = _
                  simp only [Act.put, List.setIfInBounds_toArray, List.set_cons_zero, List.set_cons_succ, i64_w, i32_w]
                  rfl
                refine one_ (i := 7) (N := some 53) #[true, true, true, true, true, true, true, true, true, true, false, true, true, false] rfl rfl (one_of HT_.out (by kernel_rfl)) (by decide) (fun K hK => ?_)
                refine goes_ Try.func42 (by kernel_rfl) rfl #[.slice Al left.length cl] (by rfl) rfl rfl (by simp only [List.map_toArray, List.map_cons, List.map_nil]; rfl) ?_
                with_reducible refine (slices_Clip_int64_int64.calls Al left.length cl _ (RI.cap RL.out).1 (RI.cap RL.out).2.1 (RI.cap RL.out).2.2).mono ?_
                rintro e w_ ⟨rfl, rfl⟩
                refine ⟨_, rfl, ?_⟩
                refine hK.out _ _ ((blk_cell (blk_below OO.out.km HD.out) 0).trans rfl) (fun hHeld => ?_)
                clear hK K
                refine norm_ (a' := ?_) ?_ ?_
                rotate_left
                · show Act.put _ (some 53) _ = _
                  simp only [Act.put, List.setIfInBounds_toArray, List.set_cons_zero, List.set_cons_succ, i64_w, i32_w]
                  rfl
                exact norm_ (by simp only [putAll, Act.put, List.setIfInBounds_toArray, List.set_cons_zero, List.set_cons_succ]) (hCont (g4, g9, A5, c5) _ ⟨L9.out, R5.out, HD.out⟩)
            · skip
              refine lit1_step (next : Int) (by rfl) ?hr ?_
              case hr => first | (go_simp; done) | (go_simp; rfl)
              intro g9 w9 hk9 hb9
              have n_ := Aside0.mk (below_step HD.out hb9)
              clear HD
              have HD := n_
              clear n_
              have L9 := Aside0.mk hk9
              clear hk9 hb9
              refine hK.out _ _ ((blk_cell (blk_below OO.out.km HD.out) 0).trans rfl) (fun hHeld => ?_)
              clear hK K
              refine norm_ (a' := ?_) ?_ ?_
              rotate_left
              · show Act.put _ (some 55) _ = _
                simp only [Act.put, List.setIfInBounds_toArray, List.set_cons_zero, List.set_cons_succ, i64_w, i32_w]
                rfl
              refine two_ (i := 2) (j := 4) (Ni := some 48) (Nj := some 50) #[true, true, true, true, false, false, true, false, true, true, false, true, true, false] #[true, true, false, true, true, false, true, false, true, true, false, true, true, false] rfl rfl rfl rfl (two_of HT_.out (by kernel_rfl)) (by decide) (by decide) (fun K hK => ?_) (fun K hK => ?_)
              · skip
                refine goes_ Try.func42 (by kernel_rfl) rfl #[.slice Aw l.length cw] (by rfl) rfl rfl (by simp only [List.map_toArray, List.map_cons, List.map_nil]; rfl) ?_
                with_reducible refine (slices_Clip_int64_int64.calls Aw l.length cw _ (RI.cap RW.out).1 (RI.cap RW.out).2.1 (RI.cap RW.out).2.2).mono ?_
                rintro e w_ ⟨rfl, rfl⟩
                refine ⟨_, rfl, ?_⟩
                refine hK.out _ _ ((blk_cell (blk_below OO.out.km HD.out) 0).trans rfl) (fun hHeld => ?_)
                clear hK K
                refine norm_ (a' := ?_) ?_ ?_
                rotate_left
                · show Act.put _ (some 48) _ = _
                  simp only [Act.put, List.setIfInBounds_toArray, List.set_cons_zero, List.set_cons_succ, i64_w, i32_w]
                  rfl
                refine one_ (i := 4) (N := some 50) #[true, true, true, true, true, false, true, false, true, true, false, true, true, false] rfl rfl (one_of HT_.out (by kernel_rfl)) (by decide) (fun K hK => ?_)
                refine lit1_step (next : Int) (by rfl) ?hr ?_
                case hr => first | (go_simp; done) | (go_simp; rfl)
                intro g4 w4 hk4 hb4
                have n_ := Aside0.mk (below_step HD.out hb4)
                clear HD
                have HD := n_
                clear n_
                have n_ := Aside0.mk (blk_below L9.out hb4)
                clear L9
                have L9 := n_
                clear n_
                have L4 := Aside0.mk hk4
                clear hk4 hb4
                refine hK.out _ _ ((blk_cell (blk_below OO.out.km HD.out) 0).trans rfl) (fun hHeld => ?_)
                clear hK K
                refine norm_ (a' := ?_) ?_ ?_
                rotate_left
                · show Act.put _ (some 50) _ = _
                  simp only [Act.put, List.setIfInBounds_toArray, List.set_cons_zero, List.set_cons_succ, i64_w, i32_w]
                  rfl
                refine one_ (i := 5) (N := some 51) #[true, true, true, true, true, true, true, false, true, true, false, true, true, false] rfl rfl (one_of HT_.out (by kernel_rfl)) (by decide) (fun K hK => ?_)
                refine clip_step Aw cw l (next : Int) g4 (base := 0) (.tmp 48) (.tmp 50) rfl rfl (Kd.R_below RW.out HD.out) rfl rfl L4.out ?aL ?_
                (case aL => have := HL.out; have := HN.out; omega)
                intro A5 c5 w5 hr5 hb5
                have n_ := Aside0.mk (blk_below L9.out hb5)
                clear L9
                have L9 := n_
                clear n_
                have R5 : Aside0 (RI w5 0 (.slice A5 (l.length + 1) c5) (l ++ [(next : Int)])) := ⟨Kd.R_lower hr5 (Nat.zero_le _)⟩
                have n_ := Aside0.mk (below_step HD.out hb5)
                clear HD
                have HD := n_
                clear n_
                clear hr5 hb5
                refine hK.out _ _ ((blk_cell (blk_below OO.out.km HD.out) 0).trans rfl) (fun hHeld => ?_)
                clear hK K
                refine norm_ (a' := ?_) ?_ ?_
                rotate_left
                · show Act.put _ (some 51) _ = _
                  simp only [Act.put, List.setIfInBounds_toArray, List.set_cons_zero, List.set_cons_succ, i64_w, i32_w]
                  rfl
                refine one_ (i := 7) (N := some 53) #[true, true, true, true, true, true, true, true, true, true, false, true, true, false] rfl rfl (one_of HT_.out (by kernel_rfl)) (by decide) (fun K hK => ?_)
                refine goes_ Try.func42 (by kernel_rfl) rfl #[.slice Al left.length cl] (by rfl) rfl rfl (by simp only [List.map_toArray, List.map_cons, List.map_nil]; rfl) ?_
                with_reducible refine (slices_Clip_int64_int64.calls Al left.length cl _ (RI.cap RL.out).1 (RI.cap RL.out).2.1 (RI.cap RL.out).2.2).mono ?_
                rintro e w_ ⟨rfl, rfl⟩
                refine ⟨_, rfl, ?_⟩
                refine hK.out _ _ ((blk_cell (blk_below OO.out.km HD.out) 0).trans rfl) (fun hHeld => ?_)
                clear hK K
                refine norm_ (a' := ?_) ?_ ?_
                rotate_left
                · show Act.put _ (some 53) _ = _
                  simp only [Act.put, List.setIfInBounds_toArray, List.set_cons_zero, List.set_cons_succ, i64_w, i32_w]
                  rfl
                exact norm_ (by simp only [putAll, Act.put, List.setIfInBounds_toArray, List.set_cons_zero, List.set_cons_succ]) (hCont (g4, g9, A5, c5) _ ⟨L9.out, R5.out, HD.out⟩)
              · skip
                refine lit1_step (next : Int) (by rfl) ?hr ?_
                case hr => first | (go_simp; done) | (go_simp; rfl)
                intro g4 w4 hk4 hb4
                have n_ := Aside0.mk (below_step HD.out hb4)
                clear HD
                have HD := n_
                clear n_
                have n_ := Aside0.mk (blk_below L9.out hb4)
                clear L9
                have L9 := n_
                clear n_
                have L4 := Aside0.mk hk4
                clear hk4 hb4
                refine hK.out _ _ ((blk_cell (blk_below OO.out.km HD.out) 0).trans rfl) (fun hHeld => ?_)
                clear hK K
                refine norm_ (a' := ?_) ?_ ?_
                rotate_left
                · show Act.put _ (some 50) _ = _
                  simp only [Act.put, List.setIfInBounds_toArray, List.set_cons_zero, List.set_cons_succ, i64_w, i32_w]
                  rfl
                refine one_ (i := 2) (N := some 48) #[true, true, true, true, true, false, true, false, true, true, false, true, true, false] rfl rfl (one_of HT_.out (by kernel_rfl)) (by decide) (fun K hK => ?_)
                refine goes_ Try.func42 (by kernel_rfl) rfl #[.slice Aw l.length cw] (by rfl) rfl rfl (by simp only [List.map_toArray, List.map_cons, List.map_nil]; rfl) ?_
                with_reducible refine (slices_Clip_int64_int64.calls Aw l.length cw _ (RI.cap RW.out).1 (RI.cap RW.out).2.1 (RI.cap RW.out).2.2).mono ?_
                rintro e w_ ⟨rfl, rfl⟩
                refine ⟨_, rfl, ?_⟩
                refine hK.out _ _ ((blk_cell (blk_below OO.out.km HD.out) 0).trans rfl) (fun hHeld => ?_)
                clear hK K
                refine norm_ (a' := ?_) ?_ ?_
                rotate_left
                · show Act.put _ (some 48) _ = _
                  simp only [Act.put, List.setIfInBounds_toArray, List.set_cons_zero, List.set_cons_succ, i64_w, i32_w]
                  rfl
                refine one_ (i := 5) (N := some 51) #[true, true, true, true, true, true, true, false, true, true, false, true, true, false] rfl rfl (one_of HT_.out (by kernel_rfl)) (by decide) (fun K hK => ?_)
                refine clip_step Aw cw l (next : Int) g4 (base := 0) (.tmp 48) (.tmp 50) rfl rfl (Kd.R_below RW.out HD.out) rfl rfl L4.out ?aL ?_
                (case aL => have := HL.out; have := HN.out; omega)
                intro A5 c5 w5 hr5 hb5
                have n_ := Aside0.mk (blk_below L9.out hb5)
                clear L9
                have L9 := n_
                clear n_
                have R5 : Aside0 (RI w5 0 (.slice A5 (l.length + 1) c5) (l ++ [(next : Int)])) := ⟨Kd.R_lower hr5 (Nat.zero_le _)⟩
                have n_ := Aside0.mk (below_step HD.out hb5)
                clear HD
                have HD := n_
                clear n_
                clear hr5 hb5
                refine hK.out _ _ ((blk_cell (blk_below OO.out.km HD.out) 0).trans rfl) (fun hHeld => ?_)
                clear hK K
                refine norm_ (a' := ?_) ?_ ?_
                rotate_left
                · show Act.put _ (some 51) _ = _
                  simp only [Act.put, List.setIfInBounds_toArray, List.set_cons_zero, List.set_cons_succ, i64_w, i32_w]
                  rfl
                refine one_ (i := 7) (N := some 53) #[true, true, true, true, true, true, true, true, true, true, false, true, true, false] rfl rfl (one_of HT_.out (by kernel_rfl)) (by decide) (fun K hK => ?_)
                refine goes_ Try.func42 (by kernel_rfl) rfl #[.slice Al left.length cl] (by rfl) rfl rfl (by simp only [List.map_toArray, List.map_cons, List.map_nil]; rfl) ?_
                with_reducible refine (slices_Clip_int64_int64.calls Al left.length cl _ (RI.cap RL.out).1 (RI.cap RL.out).2.1 (RI.cap RL.out).2.2).mono ?_
                rintro e w_ ⟨rfl, rfl⟩
                refine ⟨_, rfl, ?_⟩
                refine hK.out _ _ ((blk_cell (blk_below OO.out.km HD.out) 0).trans rfl) (fun hHeld => ?_)
                clear hK K
                refine norm_ (a' := ?_) ?_ ?_
                rotate_left
                · show Act.put _ (some 53) _ = _
                  simp only [Act.put, List.setIfInBounds_toArray, List.set_cons_zero, List.set_cons_succ, i64_w, i32_w]
                  rfl
                exact norm_ (by simp only [putAll, Act.put, List.setIfInBounds_toArray, List.set_cons_zero, List.set_cons_succ]) (hCont (g4, g9, A5, c5) _ ⟨L9.out, R5.out, HD.out⟩)
          rintro ⟨g4, g9, A5, c5⟩ wj ⟨hk9, hr5, hbj⟩
          have hHeld : wj.cell? ⟨gm, 0, none⟩ = some (.func (.func 40) #[] (capsM gn go gm)) := (blk_cell (blk_below OO.out.km hbj) 0).trans rfl
          have L9 := Aside0.mk hk9
          have R5 := Aside0.mk hr5
          have BJ := Aside0.mk hbj
          clear hk9 hr5 hbj HD
          refine norm_ (a' := ?_) ?_ ?_
          rotate_left
          · simp only [putAll, Act.put, List.setIfInBounds_toArray, List.set_cons_zero, List.set_cons_succ]
            rfl
          refine one_ (i := 10) (N := some 56) #[true, true, true, true, true, true, true, true, true, true, true, true, true, false] rfl rfl (one_of HT_.out (by kernel_rfl)) (by decide) (fun K hK => ?_)
          refine clip_step Al cl left (next : Int) g9 (base := 0) (.tmp 53) (.tmp 55) rfl rfl (Kd.R_below RL.out BJ.out) rfl rfl L9.out ?aL ?_
          (case aL => have := HE.out; have := HL.out; have := HN.out; omega)
          intro A10 c10 w10 hr10 hb10
          have R10 := Aside0.mk hr10
          have R510 := Aside0.mk (Kd.R_below R5.out hb10)
          have B10 := Aside0.mk (below_step BJ.out hb10)
          clear hr10 hb10 L9 BJ R5
          refine hK.out _ _ ((blk_cell (blk_below OO.out.km B10.out) 0).trans rfl) (fun hHeld => ?_)
          clear hK K
          refine norm_ (a' := ?_) ?_ ?_
          rotate_left
          · show Act.put _ (some 56) _ = _
            simp only [Act.put, List.setIfInBounds_toArray, List.set_cons_zero, List.set_cons_succ, i64_w, i32_w]
            rfl
          refine one_ (i := 13) (N := some 59) #[true, true, true, true, true, true, true, true, true, true, true, true, true, true] rfl rfl (one_of HT_.out (by kernel_rfl)) (by decide) (fun K hK => ?_)
          refine goesV_ Try.func40 (by kernel_rfl) rfl #[.slice A5 (l.length + 1) c5, .slice A10 (left.length + 1) c10, .int .i64 (wrap64 ((next : Int) + 1))] (by rfl) rfl rfl rfl (by simp only [List.map_toArray, List.map_cons, List.map_nil]; rfl) ?_
          rw [E6.out]
          refine (IH.out (l ++ [(next : Int)]) (left ++ [(next : Int)]) nx (rows ++ loopF n d l left next left.length) _ _ A c _ ?i1 ?i2 ?i4 ?i3 (OO.out.below B10.out) R510.out (Kd.R_lower R10.out (Nat.zero_le _))).mono ?_
          (case i1 => rw [List.length_append, List.length_singleton]; have := HL.out; omega)
          (case i2 => have := HE.out; simp only [List.length_append, List.length_singleton]; omega)
          (case i4 => have := HNX.out; omega)
          (case i3 => have h1_ := LN.out; rw [moreF_eq, if_pos hnx, List.length_append, ← HNX.out] at h1_; rw [List.length_append]; omega)
          rintro e w13 ⟨rfl, A13, c13, hO13, hk13⟩
          refine ⟨_, rfl, ?_⟩
          have OO13 := Aside0.mk hO13
          have KP13 := Aside0.mk ((Kp.of_below B10.out).trans hk13)
          clear hO13 hk13 R10 R510 B10 OO
          refine hK.out _ _ ((blk_cell OO13.out.km 0).trans rfl) (fun hHeld => ?_)
          clear hK K
          refine norm_ (a' := ?_) ?_ ?_
          rotate_left
          · show Act.put _ (some 59) _ = _
            simp only [Act.put, List.setIfInBounds_toArray, List.set_cons_zero, List.set_cons_succ, i64_w, i32_w]
            rfl
          refine done_ (done_of HT_.out (by kernel_rfl)) ?_
          try go_wp2
          go_end0
          exact ⟨rfl, A13, c13, by have h := OO13.out; rw [moreF_eq, if_pos hnx, ← HNX.out, ← List.append_assoc]; exact h, KP.out.trans KP13.out⟩
        · have d1 : decide ((next : Int) < (n : Int)) = false := decide_eq_false (by omega)
          have d2 : decide (next < n) = false := decide_eq_false hnx
          go_wp2
          go_end0
          exact ⟨rfl, A, c, by have h := OO0.out; rw [moreF_eq, if_neg hnx, List.append_nil]; exact h, KP0.out⟩

/-! ### impl_wordsOf: function 30, by hand -/
def wordsF (n : Nat) : List (List Int) := moreF n (2 * n) [] [] 0
theorem wordsF_le (n : Nat) (hn : n ≤ 5) : (wordsF n).length ≤ 1000 := by
  match n with
  | 0 => decide +kernel
  | 1 => decide +kernel
  | 2 => decide +kernel
  | 3 => decide +kernel
  | 4 => decide +kernel
  | 5 => decide +kernel
  | n + 6 => omega
def impl_wordsOf.f (n : Int) : Option (List (List Int)) := if 0 ≤ n ∧ n ≤ 5 then some (wordsF n.toNat) else none
set_option maxHeartbeats 4000000 in
set_option maxRecDepth 100000 in
theorem impl_wordsOf.calls (a0 : Int) (r : List (List Int)) (w : World) (h : impl_wordsOf.f a0 = some r) :
    Calls Try.prog 30 #[.int .i64 a0] w fun e w' => ∃ v0_ : Value, e = .returned (v0_) ∧ Kd.S (Kd.slice 2 (Kd.int .i64)) 22 w' w.heap.size (fun _ => True) v0_ r ∧ Below w.heap.size w w' := by
  unfold impl_wordsOf.f at h
  by_cases hc : 0 ≤ a0 ∧ a0 ≤ 5
  · rw [if_pos hc] at h
    obtain rfl := Option.some.inj h
    obtain ⟨n, rfl⟩ : ∃ n : Nat, a0 = (n : Int) := ⟨a0.toNat, by omega⟩
    have HN : Aside0 (n ≤ 5) := ⟨by omega⟩
    rw [Int.toNat_natCast]
    clear h hc
    have he : ∀ (vs : Array Value) (W : World), Sem.run Try.prog (callFunc 40 vs) W = .ok (.enter 40 vs) W := fun vs W => enters_ Try.func40 (by kernel_rfl) rfl vs W
    have hsf : ∀ (ad : Addr) (fn : Fn) (b c : Array Value) (m : Mode) (W : World), (store ad (.func fn b c) m).run Try.prog W = stored Try.prog W ad (.func fn b c) m := fun ad fn b c m W => run_store Try.prog W ad (.func fn b c) m rfl
    go_enter Try.func30, Try.ntmps30
    go_wp2_with (first
      | ((with_reducible refine gate_dst (N := 5) rfl ?_); refine Kd.S_lit (Kd.slice 2 (Kd.int .i64)) w.heap.size 22 ?hg (N := 5) ?hd (xs := ([] : List (List Int))) (inner := []) (ok := fun _ => True) (okp := fun _ => True) ?hr ?hp (fun _ hk => hk) trivial (below_alloc (Below.refl w.heap.size w) _) ?hs (by simp) ?_; (case hd => rfl); (case hg => rfl); (case hr => first | (go_simp; done) | (go_simp; rfl)); (case hp => exact Reps.none _ _); (case hs => simp); intro v2 w2 hs2 hb2 hg2 _; have S2 := Aside0.mk hs2; have B2 := Aside0.mk hb2; have G2 := Aside0.mk hg2; clear hs2 hb2 hg2; obtain ⟨A2, c2, e2⟩ := Kd.S_slice S2.out; subst e2; have hk4 := blk_new (w2.alloc (.cells #[.slice A2 0 c2] 23)) (.cells #[Value.nilFunc] 54); rw [show (w2.alloc (.cells #[.slice A2 0 c2] 23)).heap.size = w2.heap.size + 1 from by simp] at hk4; have hcm : ((w2.alloc (.cells #[.slice A2 0 c2] 23)).alloc (.cells #[Value.nilFunc] 54)).cell? ⟨w2.heap.size + 1, 0, none⟩ = some Value.nilFunc := (blk_cell hk4 0).trans rfl; have hfm := blk_frozen hk4 0; have K4 := Aside0.mk hk4; clear hk4))
    have kn2 : w2.heap[w.heap.size]? = some (.cells #[.int .i64 n] 3 (0, 0)) := (G2.out.block _ (by simp) (by simp)).trans (blk_new _ _)
    have hO : Out ((w2.alloc (.cells #[.slice A2 0 c2] 23)).alloc (.cells #[.func (.func 40) #[] (capsM w.heap.size w2.heap.size (w2.heap.size + 1))] 54)) w.heap.size n w.heap.size w2.heap.size (w2.heap.size + 1) [] A2 c2 :=
      ⟨blk_alloc (blk_alloc kn2 _) _, by have h := blk_new (w2.alloc (.cells #[.slice A2 0 c2] 23)) (.cells #[.func (.func 40) #[] (capsM w.heap.size w2.heap.size (w2.heap.size + 1))] 54); rw [show (w2.alloc (.cells #[.slice A2 0 c2] 23)).heap.size = w2.heap.size + 1 from by simp] at h; exact h, blk_alloc (blk_new w2 _) _, Kd.S_alloc (Kd.S_alloc S2.out _) _, B2.out.size⟩
    have hB4 : Below w.heap.size w ((w2.alloc (.cells #[.slice A2 0 c2] 23)).alloc (.cells #[.func (.func 40) #[] (capsM w.heap.size w2.heap.size (w2.heap.size + 1))] 54)) := below_alloc (below_alloc B2.out _) _
    have hcall := impl_wordsOf_1.calls n w.heap.size w.heap.size w2.heap.size (w2.heap.size + 1) HN.out (2 * n) [] [] 0 [] (.slice none 0 0) (.slice none 0 0) A2 c2 _ (by simp) (by simp) (by omega) (by have h := wordsF_le n HN.out; unfold wordsF at h; simp only [List.length_nil]; omega) hO (Kd.R_nil _ _ _ _ _) (Kd.R_nil _ _ _ _ _)
    have HC := Aside0.mk hcall
    have HB4 := Aside0.mk hB4
    clear hcall hO hB4 kn2 K4 S2 B2 G2 hcm hfm
    refine Calls.mono (show Calls Try.prog 40 #[.slice none 0 0, .slice none 0 0, .int .i64 0, .pointer (some ⟨w.heap.size, 0, none⟩), .pointer (some ⟨w2.heap.size, 0, none⟩), .pointer (some ⟨w2.heap.size + 1, 0, none⟩)] _ _ from HC.out) ?_
    clear HC
    rintro e w5 ⟨rfl, A5, c5, hO5, hk5⟩
    have hs5 : w5.cell? ⟨w2.heap.size, 0, none⟩ = some (.slice A5 (([] : List (List Int)) ++ moreF n (2 * n) [] [] 0).length c5) := (blk_cell hO5.ko 0).trans rfl
    rw [List.nil_append] at hs5
    have O5 := Aside0.mk hO5
    have B5 : Aside0 (Below w.heap.size w w5) := ⟨hk5.os.trans HB4.out.os, hk5.tape.trans HB4.out.tape, hk5.output.trans HB4.out.output, Nat.le_trans HB4.out.size hk5.size, fun k hk => (hk5.block k (Nat.lt_of_lt_of_le hk HB4.out.size) (.inl hk)).trans (HB4.out.block k hk)⟩
    clear hO5 hk5 HB4
    go_wp2
    go_ret
    exact ⟨_, rfl, by have h := O5.out.hs; rw [List.nil_append] at h; exact h, B5.out⟩
  · rw [if_neg hc] at h
    cases h

/-! ### impl_diagramsOf_1: function 52 -/
def impl_diagramsOf_1.f (k : Nat) (l0 : List Int) : Option (Bool) := (impl_isDiagram.f k l0).bind fun t101 => (some (!t101))
theorem impl_diagramsOf_1.mono : ∀ a0 k, LeO (impl_diagramsOf_1.f k a0) (impl_diagramsOf_1.f (k + 1) a0) := by
  intro a0 k
  unfold impl_diagramsOf_1.f
  repeat' first
      | (with_reducible exact impl_isDiagram.mono _ _)
      | (with_reducible exact LeO.refl _)
      | (with_reducible exact LeO.none _)
      | (with_reducible refine LeO.ite ?_ ?_)
      | (with_reducible refine LeO.bind ?_ (fun _ => ?_))
      | exact impl_isDiagram.mono _ _
      | exact LeO.none _
      | refine LeO.ite ?_ ?_
      | refine LeO.bind ?_ (fun _ => ?_)
set_option maxHeartbeats 8000000 in
set_option maxRecDepth 100000 in
theorem impl_diagramsOf_1.calls (k : Nat) (A0 : Option Addr) (c0 : Nat) (l0 : List Int) (r : Bool) (w : World) (hr0 : Kd.C (Kd.int .i64) w A0 l0.length l0) (hc0 : l0.length ≤ c0) (h : impl_diagramsOf_1.f k l0 = some r) :
    Calls Try.prog 52 #[.slice A0 l0.length c0] w fun e w' => e = .returned (.bool r) ∧ Below w.heap.size w w' := by
  have HR0 := Aside0.mk hr0
  have HC0 := Aside0.mk hc0
  clear hr0 hc0
  have HB := Aside0.mk (Below.refl w.heap.size w)
  have H : ((impl_isDiagram.f k l0).bind fun t101 => (some (!t101))) = some r := h
  clear h
  replace H := Option.bind_eq_some_iff.mp H
  obtain ⟨t101, A20, H⟩ := H
  replace H : (some (!t101)) = some r := H
  have A2 := Aside0.mk A20
  clear A20
  obtain rfl := Option.some.inj H
  go_enter Try.func52, Try.ntmps52
  go_wp2_with (first | ((with_reducible refine gate_callee (f := 53) rfl ?_); refine goesL_ (some 4) rfl rfl Try.func53 (by kernel_rfl) rfl #[.slice A0 l0.length c0] rfl (by (try simp only [List.map_toArray, List.map_cons, List.map_nil]); first | done | rfl | (simp only [List.length_drop, List.length_take]; rfl)) ?_; (with_reducible refine (impl_isDiagram.calls k _ _ l0 t101 _ ?side1 ?side2 A2.out).mono ?_); (case side1 => repeat (first | exact HR0.out | (with_reducible refine Kd.C_alloc ?_ _) | (with_reducible refine Kd.C_drewN ?_ _) | (with_reducible refine Kd.C_drew ?_))); (case side2 => exact HC0.out); rintro e w3 ⟨rfl, hb⟩; refine ⟨_, rfl, ?_⟩; have n0_ := Aside0.mk (below_step (by repeat (first | (with_reducible first | exact HB.out | apply below_alloc | apply pw_below_drewN | apply below_drew1) | exact HB.out)) hb); clear HB; have HB := n0_; clear n0_; (try clear hb); (try clear hb2); (try clear hk); (try clear hi)))
  go_ret
  exact ⟨by first | rfl | (simp [errW_none, errW_some] <;> rfl) | (simp [*, errW_none, errW_some] <;> rfl), by repeat (first | (with_reducible first | exact HB.out | apply below_alloc | apply pw_below_drewN | apply below_drew1) | exact HB.out)⟩

/-! ### slices_IndexFunc_int64_int64: function 58, by hand -/
-- printed by mk.py (fnvals.py) for impl.diagramsOf$1, seat D's numbers
def slices_IndexFunc_int64_int64_at_impl_diagramsOf_1.l0 : Nat → List (List Int) → Int → Int → Option (Int)
  | 0, _, _, _ => none
  | k + 1, x0, x7, x8 => if x8 < x7 then (if 0 ≤ x8 then (if x8 < (x0.length : Int) then ((impl_diagramsOf_1.f k (rd_L1 x0 x8)).bind fun t102 => (if t102 = true then (some x8) else (slices_IndexFunc_int64_int64_at_impl_diagramsOf_1.l0 k x0 x7 (wrap64 (x8 + 1))))) else (none)) else (none)) else (some (-1))
def slices_IndexFunc_int64_int64_at_impl_diagramsOf_1.f (k : Nat) (l0 : List (List Int))  : Option (Int) := slices_IndexFunc_int64_int64_at_impl_diagramsOf_1.l0 k l0 (l0.length : Int) 0
theorem slices_IndexFunc_int64_int64_at_impl_diagramsOf_1.mono_l : ∀ k, (∀ y0 y1 y2, LeO (slices_IndexFunc_int64_int64_at_impl_diagramsOf_1.l0 k y0 y1 y2) (slices_IndexFunc_int64_int64_at_impl_diagramsOf_1.l0 (k + 1) y0 y1 y2))
  | 0 => fun _ _ _ r h => by simp [slices_IndexFunc_int64_int64_at_impl_diagramsOf_1.l0] at h
  | k + 1 => by
    have ih0 := slices_IndexFunc_int64_int64_at_impl_diagramsOf_1.mono_l k
    · intro y0 y1 y2
      unfold slices_IndexFunc_int64_int64_at_impl_diagramsOf_1.l0
      repeat' first
      | (with_reducible exact ih0 _ _ _)
      | (with_reducible exact impl_diagramsOf_1.mono _ _)
      | (with_reducible exact LeO.refl _)
      | (with_reducible exact LeO.none _)
      | (with_reducible refine LeO.ite ?_ ?_)
      | (with_reducible refine LeO.bind ?_ (fun _ => ?_))
      | exact ih0 _ _ _
      | exact impl_diagramsOf_1.mono _ _
      | exact LeO.none _
      | refine LeO.ite ?_ ?_
      | refine LeO.bind ?_ (fun _ => ?_)
theorem slices_IndexFunc_int64_int64_at_impl_diagramsOf_1.mono : ∀ a0 k, LeO (slices_IndexFunc_int64_int64_at_impl_diagramsOf_1.f k a0) (slices_IndexFunc_int64_int64_at_impl_diagramsOf_1.f (k + 1) a0) := by
  intro a0 k
  have ih0 := slices_IndexFunc_int64_int64_at_impl_diagramsOf_1.mono_l k
  unfold slices_IndexFunc_int64_int64_at_impl_diagramsOf_1.f
  repeat' first
      | (with_reducible exact ih0 _ _ _)
      | (with_reducible exact impl_diagramsOf_1.mono _ _)
      | (with_reducible exact LeO.refl _)
      | (with_reducible exact LeO.none _)
      | (with_reducible refine LeO.ite ?_ ?_)
      | (with_reducible refine LeO.bind ?_ (fun _ => ?_))
      | exact ih0 _ _ _
      | exact impl_diagramsOf_1.mono _ _
      | exact LeO.none _
      | refine LeO.ite ?_ ?_
      | refine LeO.bind ?_ (fun _ => ?_)
set_option maxHeartbeats 8000000 in
set_option maxRecDepth 100000 in
theorem slices_IndexFunc_int64_int64_at_impl_diagramsOf_1.calls (k : Nat) (A0 : Option Addr) (c0 : Nat) (l0 : List (List Int))  (r : Int) (w : World) (hr0 : Kd.C (Kd.slice 2 (Kd.int .i64)) w A0 l0.length l0) (hc0 : l0.length ≤ c0) (h : slices_IndexFunc_int64_int64_at_impl_diagramsOf_1.f k l0 = some r) :
    Calls Try.prog 58 #[.slice A0 l0.length c0, .func (.func 52) #[] #[]] w fun e w' => e = .returned (.int .i64 r) ∧ Below w.heap.size w w' := by
  have HR0 := Aside0.mk hr0
  have HC0 := Aside0.mk hc0
  clear hr0 hc0
  have HB := Aside0.mk (Below.refl w.heap.size w)
  have H : (slices_IndexFunc_int64_int64_at_impl_diagramsOf_1.l0 k l0 (l0.length : Int) 0) = some r := h
  clear h
  have H' := Aside0.mk H
  clear H
  go_enter Try.func58, Try.ntmps58
  go_wp2
  go_loopg [8] k (fun kq v8 w' => ∃ (x8_1 : Int), v8 = .int .i64 x8_1 ∧ Aside0 (slices_IndexFunc_int64_int64_at_impl_diagramsOf_1.l0 kq l0 (l0.length : Int) x8_1 = some r) ∧ Aside0 (kq ≤ k) ∧ Aside0 (Below w.heap.size w w'))
  case atStart => exact ⟨(0), (by first | rfl | (simp; done) | (simp [*]; done)), H', ⟨Nat.le_refl _⟩, ⟨by repeat (first | (with_reducible first | exact HB.out | apply below_alloc | apply pw_below_drewN | apply below_drew1) | exact HB.out)⟩⟩
  case round =>
    clear H'
    try clear p2
    obtain ⟨x8_1, rfl, HA, HK1, HB⟩ := hrel
    cases gk with
    | zero => exact absurd HA.out (by simp [slices_IndexFunc_int64_int64_at_impl_diagramsOf_1.l0])
    | succ k1 =>
      have H := HA.out
      clear HA
      simp only [slices_IndexFunc_int64_int64_at_impl_diagramsOf_1.l0] at H
      by_cases c3 : x8_1 < (l0.length : Int)
      · rw [if_pos c3] at H
        have c3b0 : decide (x8_1 < (l0.length : Int)) = true := decide_eq_true c3
        clear c3
        by_cases c4 : 0 ≤ x8_1
        · rw [if_pos c4] at H
          have c4b0 : decide (0 ≤ x8_1) = true := decide_eq_true c4
          clear c4
          by_cases c5 : x8_1 < (l0.length : Int)
          · rw [if_pos c5] at H
            have c5b0 : decide (x8_1 < (l0.length : Int)) = true := decide_eq_true c5
            clear c5
            replace H := Option.bind_eq_some_iff.mp H
            obtain ⟨t102, A60, H⟩ := H
            replace H : (if t102 = true then (some x8_1) else (slices_IndexFunc_int64_int64_at_impl_diagramsOf_1.l0 k1 l0 (l0.length : Int) (wrap64 (x8_1 + 1)))) = some r := H
            have A6 := Aside0.mk A60
            clear A60
            by_cases c7 : t102 = true
            · subst c7
              have H1 : (some x8_1) = some r := by rw [if_pos rfl] at H; exact H
              clear H
              have H := H1
              clear H1
              obtain rfl := Option.some.inj H
              have p101 : 0 ≤ (x8_1 : Int) := of_decide_eq_true (by first | (with_reducible assumption) | assumption)
              have q101 : x8_1 < (l0.length : Int) := of_decide_eq_true (by first | (with_reducible assumption) | assumption)
              obtain ⟨ad101, A101_0, c101_0, e101, hx101_0, hl101_0, hi101_0⟩ := at_L1 HR0.out x8_1 p101 q101
              cases e101
              replace hx101_0 := (HB.out.cell (World.block_lt_of_cell? w _ hx101_0)).trans hx101_0
              have HR101_0 := Aside0.mk hi101_0
              have HC101_0 := Aside0.mk hl101_0
              clear hi101_0 hl101_0
              replace p101 := eq_true p101
              replace q101 := eq_true q101
              go_wp2_with (first | (go_at_call 52; (with_reducible refine (impl_diagramsOf_1.calls k1 _ _ (rd_L1 l0 x8_1) true _ ?side1 ?side2 A6.out).mono ?_); (case side1 => repeat (first | exact (Kd.C_below HR101_0.out HB.out) | (with_reducible refine Kd.C_alloc ?_ _) | (with_reducible refine Kd.C_drewN ?_ _) | (with_reducible refine Kd.C_drew ?_))); (case side2 => exact HC101_0.out); rintro e w8 ⟨rfl, hb⟩; have n0_ := Aside0.mk (below_step (by repeat (first | (with_reducible first | exact HB.out | apply below_alloc | apply pw_below_drewN | apply below_drew1) | exact HB.out)) hb); clear HB; have HB := n0_; clear n0_; (try clear hb); (try clear hb2); (try clear hk); (try clear hi)))
              go_ret
              exact ⟨by first | rfl | (simp [errW_none, errW_some] <;> rfl) | (simp [*, errW_none, errW_some] <;> rfl), by repeat (first | (with_reducible first | exact HB.out | apply below_alloc | apply pw_below_drewN | apply below_drew1) | exact HB.out)⟩
            · replace c7 := Bool.eq_false_iff.mpr c7
              subst c7
              have H1 : (slices_IndexFunc_int64_int64_at_impl_diagramsOf_1.l0 k1 l0 (l0.length : Int) (wrap64 (x8_1 + 1))) = some r := by rw [if_neg (show ¬ (false = true) by decide)] at H; exact H
              clear H
              have H := H1
              clear H1
              have H' := Aside0.mk H
              clear H
              have p101 : 0 ≤ (x8_1 : Int) := of_decide_eq_true (by first | (with_reducible assumption) | assumption)
              have q101 : x8_1 < (l0.length : Int) := of_decide_eq_true (by first | (with_reducible assumption) | assumption)
              obtain ⟨ad101, A101_0, c101_0, e101, hx101_0, hl101_0, hi101_0⟩ := at_L1 HR0.out x8_1 p101 q101
              cases e101
              replace hx101_0 := (HB.out.cell (World.block_lt_of_cell? w _ hx101_0)).trans hx101_0
              have HR101_0 := Aside0.mk hi101_0
              have HC101_0 := Aside0.mk hl101_0
              clear hi101_0 hl101_0
              replace p101 := eq_true p101
              replace q101 := eq_true q101
              go_wp2_with (first | (go_at_call 52; (with_reducible refine (impl_diagramsOf_1.calls k1 _ _ (rd_L1 l0 x8_1) false _ ?side1 ?side2 A6.out).mono ?_); (case side1 => repeat (first | exact (Kd.C_below HR101_0.out HB.out) | (with_reducible refine Kd.C_alloc ?_ _) | (with_reducible refine Kd.C_drewN ?_ _) | (with_reducible refine Kd.C_drew ?_))); (case side2 => exact HC101_0.out); rintro e w9 ⟨rfl, hb⟩; have n0_ := Aside0.mk (below_step (by repeat (first | (with_reducible first | exact HB.out | apply below_alloc | apply pw_below_drewN | apply below_drew1) | exact HB.out)) hb); clear HB; have HB := n0_; clear n0_; (try clear hb); (try clear hb2); (try clear hk); (try clear hi)))
              go_roundg k1
              case measure => have := HK1.out; omega
              case rel => exact ⟨(wrap64 (x8_1 + 1)), (by first | rfl | (simp; done) | (simp [*]; done)), H', ⟨by have := HK1.out; omega⟩, ⟨by repeat (first | (with_reducible first | exact HB.out | apply below_alloc | apply pw_below_drewN | apply below_drew1) | exact HB.out)⟩⟩
          · rw [if_neg c5] at H
            exact absurd H (by simp)
        · rw [if_neg c4] at H
          exact absurd H (by simp)
      · rw [if_neg c3] at H
        have c3b0 : decide (x8_1 < (l0.length : Int)) = false := decide_eq_false c3
        clear c3
        obtain rfl := Option.some.inj H
        go_wp2
        go_ret
        exact ⟨by first | rfl | (simp [errW_none, errW_some] <;> rfl) | (simp [*, errW_none, errW_some] <;> rfl), by repeat (first | (with_reducible first | exact HB.out | apply below_alloc | apply pw_below_drewN | apply below_drew1) | exact HB.out)⟩

/-! ### slices_DeleteFunc_int64_int64: function 51, by hand -/
theorem ownsRow_take {w : World} {base e g n c i : Nat} {xs : List Value} (h : w.ownsRow base e 1 (.slice (some ⟨g, 0, none⟩) n c) n xs) (hi : i ≤ n) : w.ownsRow base e 1 (.slice (some ⟨g, 0, none⟩) i c) i (xs.take i) := by
  have h1 := h.1
  refine ⟨by rw [List.length_take]; omega, .inr ?_⟩
  rcases h.2 with ⟨h2, _⟩ | ⟨g', cap, cur, h2, h3, h4, h5, h6, h7, h8⟩
  · cases h2
  · injection h2 with e1 e2 e3
    injection e1 with e1
    injection e1 with e1 _ _
    subst e1
    subst e3
    refine ⟨g, c, cur, rfl, h3, h4, by omega, h6, h7, ?_⟩
    rw [← h8, List.take_take]
    congr 1
    omega
theorem zero_S (w : World) : (zeroValue 22).run Try.prog w = .ok (.slice none 0 0) w := by kernel_rfl
set_option maxHeartbeats 8000000 in
set_option maxRecDepth 100000 in
theorem slices_DeleteFunc_rows.calls (k k1 : Nat) (p : List Int → Bool) (v0 : Value) (xs : List (List Int)) (w0 w : World) (hB : Below w0.heap.size w0 w) (ho0 : Kd.S (Kd.slice 2 (Kd.int .i64)) 22 w w0.heap.size (fun _ => True) v0 xs) (hl : xs.length ≤ 1048576)
    (hp : ∀ x ∈ xs, impl_diagramsOf_1.f k x = some (p x)) (hi : slices_IndexFunc_int64_int64_at_impl_diagramsOf_1.f k1 xs = some (idxG p xs 0)) :
    Calls Try.prog 51 #[v0, .func (.func 52) #[] #[]] w fun e w' => ∃ v, e = .returned v ∧ Kd.S (Kd.slice 2 (Kd.int .i64)) 22 w' w0.heap.size (fun _ => True) v (keepG p xs) ∧ Below w0.heap.size w0 w' := by
  have he : ∀ (vs : Array Value) (W : World), Sem.run Try.prog (callFunc 52 vs) W = .ok (.enter 52 vs) W := fun vs W => enters_ Try.func52 (by kernel_rfl) rfl vs W
  obtain ⟨A0, c0, rfl, hc0, hC⟩ := Kd.S_reads ho0
  have hIF := slices_IndexFunc_int64_int64_at_impl_diagramsOf_1.calls k1 A0 c0 xs (idxG p xs 0) w hC hc0 hi
  have HO := Aside0.mk ho0
  have HB := Aside0.mk hB
  clear hB ho0 hC hi
  by_cases hi : idxG p xs 0 = -1
  · have HF := Aside0.mk (idxG_none p xs 0 hi)
    rw [hi] at hIF
    clear hi hp
    go_enter Try.func51, Try.ntmps51
    go_wp2_with fail
    refine hIF.mono ?_
    clear hIF
    rintro e w1 ⟨rfl, hb⟩
    have HB1 := Aside0.mk (below_step HB.out hb)
    have HO1 := Aside0.mk (Kd.S_below HO.out hb)
    clear hb
    go_wp2
    go_ret
    exact ⟨_, rfl, by rw [keepG_all HF.out]; exact HO1.out, HB1.out⟩
  · obtain ⟨i0, h1, h2, h3, h4⟩ := idxG_some p xs 0 hi
    rw [Nat.zero_add] at h1
    rw [h1] at hIF
    have hne1 : ((i0 : Int) == -1) = false := beq_eq_false_iff_ne.2 (by omega)
    obtain ⟨g, cap, e0, hg, hgl, _⟩ := Kd.R_form (Kd.S_R HO.out) (by omega)
    injection e0 with ea en ec
    subst ea
    obtain ⟨f, l, hT, hown, _⟩ := S_open HO.out
    have hll := hT.len
    have hfst : ∀ (j : Nat) (hj : j < l.length), l[j].1.1 = xs[j]'(by omega) := fun j hj => by
      have e1 : (l.map (·.1))[j]? = xs.zipIdx[j]? := by rw [hT.fst]
      rw [List.getElem?_map, List.getElem?_eq_getElem hj, List.getElem?_zipIdx, Nat.zero_add, List.getElem?_eq_getElem (by omega)] at e1
      have e2 : l[j].1 = (xs[j]'(by omega), j) := Option.some.inj e1
      rw [e2]
    have hmap : l.map (·.1.1) = xs := by
      have e1 : l.map (·.1.1) = (l.map (·.1)).map (·.1) := by rw [List.map_map]; rfl
      rw [e1, hT.fst, List.zipIdx_map_fst]
    have HI0 := Aside0.mk (KeepG.start (p := fun t : Trip => p t.1.1) (l := l) (i := i0) (by omega) (fun t ht => h3 t.1.1 (by
      have e1 : (l.take i0).map (·.1.1) = xs.take i0 := by rw [List.map_take, hmap]
      rw [← e1]
      exact List.mem_map_of_mem ht)) (by
      obtain ⟨x, e1, e2⟩ := h4
      rw [List.getElem?_eq_getElem h2] at e1
      refine ⟨l[i0]'(by omega), List.getElem?_eq_getElem (by omega), ?_⟩
      rw [hfst i0 (by omega), Option.some.inj e1]
      exact e2))
    have HT := Aside0.mk hT
    have HW := Aside0.mk hown
    have HG := Aside0.mk hg
    have HM := Aside0.mk hmap
    have HLL := Aside0.mk hll
    have HP := Aside0.mk (show ∀ t ∈ l, impl_diagramsOf_1.f k t.1.1 = some (p t.1.1) from fun t ht => hp _ (by rw [← hmap]; exact List.mem_map_of_mem ht))
    clear h1 h3 h4 hi hp en ec hT hown hll hfst hmap hg HO
    go_enter Try.func51, Try.ntmps51
    go_wp2_with fail
    refine hIF.mono ?_
    clear hIF
    rintro e w1 ⟨rfl, hb⟩
    have HB1 := Aside0.mk (below_step HB.out hb)
    have hgb : w.grownBy w1 (some g) := ⟨hb.os, hb.tape, hb.output, hb.size, fun k_ hk_ _ => hb.block k_ hk_⟩
    have HT1 := Aside0.mk (HT.out.step hgb)
    have HW1 := Aside0.mk (HW.out.kept (row := none) ⟨hb.os, hb.tape, hb.output, hb.size, fun k_ hk_ _ => hb.block k_ hk_⟩ (by simp [Value.ownBlock]))
    clear hb hgb HB HT HW
    have e3 : IntKind.i64.wrap ((i0 : Int) + 1) = ((i0 + 1 : Nat) : Int) := by rw [Go.wrap_small _ (by omega) (by omega)]; omega
    go_wp2
    go_loopg [5, 6, 7] (xs.length + 1) (fun kq v5 v6 v7 w' => ∃ (i j : Nat) (L : List Trip), v5 = .int .i64 i ∧ v6 = .int .i64 j ∧ Aside0 (KeepG (fun t : Trip => p t.1.1) l i j L) ∧ Aside0 (xs.length + 1 ≤ kq + j) ∧ Aside0 (Trips w' w0.heap.size 2 g (fun _ => True) f xs l) ∧ Aside0 (w'.ownsRow w0.heap.size 22 1 (.slice (some ⟨g, 0, none⟩) xs.length c0) xs.length (L.map (fun (t : Trip) => t.2))) ∧ Aside0 (Below w0.heap.size w0 w'))
    case atStart => exact ⟨i0, i0 + 1, l, (by first | rfl | (simp; done)), (by first | rfl | (simp; done) | (simp [e3]; done)), HI0, ⟨by clear e3; omega⟩, HT1, HW1, HB1⟩
    case round =>
      obtain ⟨i, j, L, rfl, rfl, HI, HK, HT2, HW2, HB2⟩ := hrel
      clear HB1 HT1 HW1 HI0 e3
      have hlt := HI.out.lt
      have hle := HI.out.le
      have hlen := HI.out.len
      rw [HLL.out] at hle hlen
      by_cases c : j < xs.length
      · have c1 : decide ((j : Int) < (xs.length : Int)) = true := decide_eq_true (by omega)
        have c2 : decide (j < xs.length) = true := decide_eq_true c
        have hjl : j < l.length := by rw [HLL.out]; exact c
        obtain ⟨t, ht⟩ : ∃ t : Trip, t = l[j] := ⟨_, rfl⟩
        have HTJ := Aside0.mk ht
        have hmem : t ∈ l := by rw [ht]; exact List.getElem_mem hjl
        obtain ⟨At, ct, et⟩ := Kd.R_slice (HT2.out.elem t hmem)
        have hx : wr.cell? ⟨g, j, none⟩ = some (.slice At t.1.1.length ct) := by
          have h1 := HW2.out.cells (g := g) rfl j t.2 (by rw [List.getElem?_map, List.getElem?_eq_getElem (by omega), HI.out.at_ hjl, ← ht]; rfl)
          rw [Addr.add_lit, Nat.zero_add, et] at h1
          exact h1
        have HE := Aside0.mk et
        have HME := Aside0.mk hmem
        clear et hmem ht
        cases gk with
        | zero => exact absurd HK.out (by omega)
        | succ k1 =>
        have p1 : (0 ≤ (j : Int)) = True := eq_true (by omega)
        have q1 : ((j : Int) < (xs.length : Int)) = True := eq_true (by omega)
        have RE := Aside0.mk (HT2.out.elem t HME.out)
        rw [HE.out] at RE
        go_wp2_with fail
        refine (impl_diagramsOf_1.calls k At ct t.1.1 (p t.1.1) _ (Kd.R_reads' RE.out).2.2 (Kd.R_reads' RE.out).2.1 (HP.out t HME.out)).mono ?_
        rintro e w2 ⟨he2, hb⟩
        have HB3 := Aside0.mk (below_step HB2.out hb)
        have hgb : wr.grownBy w2 (some g) := ⟨hb.os, hb.tape, hb.output, hb.size, fun k_ hk_ _ => hb.block k_ hk_⟩
        have HT3 := Aside0.mk (HT2.out.step hgb)
        have HW3 := Aside0.mk (HW2.out.kept (row := none) ⟨hb.os, hb.tape, hb.output, hb.size, fun k_ hk_ _ => hb.block k_ hk_⟩ (by simp [Value.ownBlock]))
        clear hb hgb HB2 HT2 HW2 hx RE
        have e4 : IntKind.i64.wrap ((j : Int) + 1) = ((j + 1 : Nat) : Int) := by rw [Go.wrap_small _ (by omega) (by omega)]; omega
        have e5 : IntKind.i64.wrap ((i : Int) + 1) = ((i + 1 : Nat) : Int) := by rw [Go.wrap_small _ (by omega) (by omega)]; omega
        cases hpx : p t.1.1 with
        | true =>
          rw [hpx] at he2
          subst he2
          go_wp2
          go_roundg k1
          case measure => omega
          case rel => exact ⟨i, j + 1, L, (by first | rfl | (simp; done)), (by first | rfl | (simp; done) | (simp [e4]; done)), ⟨HI.out.skip hjl (by rw [← HTJ.out]; exact hpx)⟩, ⟨by have := HK.out; omega⟩, HT3, HW3, HB3⟩
        | false =>
          rw [hpx] at he2
          subst he2
          have hiL : i < L.length := by omega
          have hx2 : w2.cell? ⟨g, i, none⟩ = some L[i].2 := by
            have h1 := HW3.out.cells (g := g) rfl i L[i].2 (by rw [List.getElem?_map, List.getElem?_eq_getElem hiL]; rfl)
            rw [Addr.add_lit, Nat.zero_add] at h1
            exact h1
          obtain ⟨cs3, hcs3⟩ := own_typed HW3.out g rfl
          have hf2 := blk_frozen hcs3 i
          have p2 : (0 ≤ (i : Int)) = True := eq_true (by omega)
          have q2 : ((i : Int) < (xs.length : Int)) = True := eq_true (by omega)
          have HP7 := Aside0.mk (HW3.out.stored i (.slice At t.1.1.length ct))
          have HC3 := Aside0.mk hcs3
          clear hcs3
          go_wp2
          go_roundg k1
          case measure => omega
          case rel =>
            refine ⟨i + 1, j + 1, L.set i l[j], (by first | rfl | (simp; done) | (simp [e5]; done)), (by first | rfl | (simp; done) | (simp [e4]; done)), ⟨HI.out.keep hjl (by rw [← HTJ.out]; exact hpx)⟩, ⟨by have := HK.out; omega⟩, ⟨HT3.out.step HP7.out.2⟩, ⟨?_⟩, ⟨below_set HB3.out HG.out⟩⟩
            rw [List.map_set, ← HTJ.out, HE.out]
            exact HP7.out.1
      · have c1 : decide ((j : Int) < (xs.length : Int)) = false := decide_eq_false (by omega)
        have c2 : decide (j < xs.length) = false := decide_eq_false c
        have hj : j = xs.length := by omega
        subst hj
        have p2 : (0 ≤ (i : Int)) = True := eq_true (by omega)
        obtain ⟨cs3, hcs3⟩ := own_typed HW2.out g rfl
        have hcl : ∀ ty, (Builtin.clear_ #[23] ty #[.slice (some ⟨g, i, none⟩) (xs.length - i) (c0 - i)]).run Try.prog wr = .ok (.tuple #[]) (wr.setCells g i (List.replicate (xs.length - i) (.slice none 0 0))) := fun ty =>
          Lib.run_clear_slice wr _ 22 ty _ Try.underlying23 zero_S rfl rfl g i _ _ (by omega)
            (fun t ht => by
              have h1 := HW2.out.cells (g := g) rfl (i + t) (L[i + t]'(by omega)).2 (by rw [List.getElem?_map, List.getElem?_eq_getElem (by omega)]; rfl)
              rw [Addr.add_lit, Nat.zero_add] at h1
              rw [h1]; rfl)
            (fun t ht => blk_frozen hcs3 _)
        have hcut := own_cut (w := wr) (List.replicate (xs.length - i) (.slice none 0 0)) i wr (ownsRow_take HW2.out (show i ≤ xs.length by omega)) (by rw [List.length_take, List.length_map]; omega)
        have HR := Aside0.mk hcut
        have HC3 := Aside0.mk hcs3
        clear hcut hcs3
        go_wp2
        go_ret
        have hend : L.take i = keepG (fun t : Trip => p t.1.1) l := by
          have h := HI.out
          have e6 : xs.length = l.length := HLL.out.symm
          rw [e6] at h
          exact h.end_
        have hsub : (L.take i).Sublist l := by rw [hend]; exact List.filter_sublist
        have hlen2 : (L.take i).length = i := by rw [List.length_take]; omega
        have hS := S_shut (HT2.out.step HR.out.2) hsub trivial (n := i) (c := c0) (e2 := 22) (by rw [hlen2, List.map_take]; exact HR.out.1)
        refine ⟨_, rfl, ?_, HB2.out.grown HR.out.2 HB2.out.size (fun k hk => by cases hk; exact HG.out)⟩
        have e7 : (L.take i).map (fun (t : Trip) => t.1.1) = keepG p xs := by
          rw [hend]
          unfold keepG
          rw [← HM.out, List.filter_map]
          rfl
        rw [← e7]
        exact hS

/-! ### impl_diagramsOf: function 38, by hand -/
/-- Is a word struck from the list (so many rounds)? -/
def impl_diagramsOf.q (k : Nat) (x : List Int) : Bool := impl_diagramsOf_1.f k x == some true
def impl_diagramsOf.ok (k : Nat) (xs : List (List Int)) : Prop := (∀ x ∈ xs, (impl_diagramsOf_1.f k x).isSome = true) ∧ slices_IndexFunc_int64_int64_at_impl_diagramsOf_1.f k xs = some (idxG (impl_diagramsOf.q k) xs 0)
instance (k : Nat) (xs : List (List Int)) : Decidable (impl_diagramsOf.ok k xs) := by unfold impl_diagramsOf.ok; infer_instance
def impl_diagramsOf.f (k : Nat) (a0 : Int) : Option (List (List Int)) := if (0 ≤ a0 ∧ a0 ≤ 5) ∧ impl_diagramsOf.ok k (wordsF a0.toNat) then some (keepG (impl_diagramsOf.q k) (wordsF a0.toNat)) else none
theorem idxG_congr {α : Type} {p q : α → Bool} : ∀ (l : List α) (j : Nat), (∀ x ∈ l, p x = q x) → idxG p l j = idxG q l j
  | [], _, _ => rfl
  | x :: l, j, h => by
    unfold idxG
    rw [h x List.mem_cons_self, idxG_congr l (j + 1) (fun y hy => h y (List.mem_cons_of_mem _ hy))]
theorem keepG_congr {α : Type} {p q : α → Bool} {l : List α} (h : ∀ x ∈ l, p x = q x) : keepG p l = keepG q l := by
  unfold keepG
  exact List.filter_congr (fun x hx => by rw [h x hx])
theorem impl_diagramsOf.q_same {k : Nat} {xs : List (List Int)} (h : impl_diagramsOf.ok k xs) : ∀ x ∈ xs, impl_diagramsOf.q k x = impl_diagramsOf.q (k + 1) x := fun x hx => by
  obtain ⟨b, hb⟩ := Option.isSome_iff_exists.1 (h.1 x hx)
  have h2 := impl_diagramsOf_1.mono x k b hb
  unfold impl_diagramsOf.q
  rw [hb, h2]
theorem impl_diagramsOf.mono : ∀ a0 k, LeO (impl_diagramsOf.f k a0) (impl_diagramsOf.f (k + 1) a0) := by
  intro a0 k r hr
  unfold impl_diagramsOf.f at hr ⊢
  by_cases hc : (0 ≤ a0 ∧ a0 ≤ 5) ∧ impl_diagramsOf.ok k (wordsF a0.toNat)
  · rw [if_pos hc] at hr
    have hq := impl_diagramsOf.q_same hc.2
    have h2 : impl_diagramsOf.ok (k + 1) (wordsF a0.toNat) := ⟨fun x hx => by
      obtain ⟨b, hb⟩ := Option.isSome_iff_exists.1 (hc.2.1 x hx)
      exact Option.isSome_iff_exists.2 ⟨b, impl_diagramsOf_1.mono x k b hb⟩, by
      rw [← idxG_congr _ 0 hq]
      exact slices_IndexFunc_int64_int64_at_impl_diagramsOf_1.mono _ k _ hc.2.2⟩
    rw [if_pos ⟨hc.1, h2⟩, ← keepG_congr hq]
    exact hr
  · rw [if_neg hc] at hr
    cases hr
set_option maxHeartbeats 4000000 in
set_option maxRecDepth 100000 in
theorem impl_diagramsOf.calls (k : Nat) (a0 : Int) (r : List (List Int)) (w : World) (h : impl_diagramsOf.f k a0 = some r) :
    Calls Try.prog 38 #[.int .i64 a0] w fun e w' => ∃ v0_ : Value, e = .returned (v0_) ∧ Kd.S (Kd.slice 2 (Kd.int .i64)) 22 w' w.heap.size (fun _ => True) v0_ r ∧ Below w.heap.size w w' := by
  unfold impl_diagramsOf.f at h
  by_cases hc : (0 ≤ a0 ∧ a0 ≤ 5) ∧ impl_diagramsOf.ok k (wordsF a0.toNat)
  · rw [if_pos hc] at h
    obtain rfl := Option.some.inj h
    have HW : Aside0 (impl_wordsOf.f a0 = some (wordsF a0.toNat)) := ⟨by unfold impl_wordsOf.f; rw [if_pos hc.1]⟩
    have HL : Aside0 ((wordsF a0.toNat).length ≤ 1048576) := ⟨by have := wordsF_le a0.toNat (by omega); omega⟩
    have HP : Aside0 (∀ x ∈ wordsF a0.toNat, impl_diagramsOf_1.f k x = some (impl_diagramsOf.q k x)) := ⟨fun x hx => by
      obtain ⟨b, hb⟩ := Option.isSome_iff_exists.1 (hc.2.1 x hx)
      unfold impl_diagramsOf.q
      rw [hb]
      cases b <;> rfl⟩
    have HI := Aside0.mk hc.2.2
    clear h hc
    generalize wordsF a0.toNat = xs at HW HL HP HI ⊢
    go_enter Try.func38, Try.ntmps38
    go_wp2_with fail
    refine (impl_wordsOf.calls a0 xs _ HW.out).mono ?_
    rintro e w1 ⟨v1, rfl, ho, hb⟩
    have S1 := Aside0.mk ho
    have B1 := Aside0.mk hb
    clear ho hb
    obtain ⟨A1, c1, e1⟩ := Kd.S_slice S1.out
    subst e1
    go_wp2_with fail
    refine (slices_DeleteFunc_rows.calls k k (impl_diagramsOf.q k) _ xs w w1 B1.out S1.out HL.out HP.out HI.out).mono ?_
    rintro e w2 ⟨v2, rfl, ho, hb⟩
    have S2 := Aside0.mk ho
    have B2 := Aside0.mk hb
    clear ho hb
    obtain ⟨A2, c2, e2⟩ := Kd.S_slice S2.out
    subst e2
    go_wp2
    go_ret
    exact ⟨_, rfl, S2.out, B2.out⟩
  · rw [if_neg hc] at h
    cases h

end Go.Proofs.Ytflpdjmdkdgijaa.G
