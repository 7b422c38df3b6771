-- Written by the session's program mk.py (which runs the kit's print.py over functions and over contracts given by hand).
import Derived.Test.YtflpdjmdkdgijaaG0
import Derived.Test.YtflpdjmdkdgijaaG42
import Derived.Test.YtflpdjmdkdgijaaG43
import Derived.Test.YtflpdjmdkdgijaaGgV
import Derived.Deep.RegionLawGrows
namespace Go.Proofs.Ytflpdjmdkdgijaa.G
open Go.RowKit Go.Maps Go.Proofs.YtflpdjmdkdgijaaW.PrintWords Go.Proofs.YtflpdjmdkdgijaaW.PrintLast Go.Proofs.YtflpdjmdkdgijaaW.PrintMore
attribute [local go_sem] max2_int min2_int max_two min_two max_three min_three max_four min_four   -- for this text's walks alone
set_option linter.unusedVariables false
set_option linter.unusedSimpArgs false

/-! ### impl_wordsOf_1: function 40, by hand -/
/-- The words that begin with l (so many chords open: left; the next new one: next), d places before the end. -/
def moreF (n : Nat) : Nat → List Int → List Int → Nat → List (List Int)
  | 0, l, _, _ => [l]
  | d + 1, l, left, next => (List.range left.length).flatMap (fun k => moreF n d (l ++ [left.getD k 0]) (left.eraseIdx k) next) ++ (if next < n then moreF n d (l ++ [(next : Int)]) (left ++ [(next : Int)]) (next + 1) else [])
/-- What a call of 'more' leaves as it was. -/
structure Kp (B : Nat) (W W' : World) : Prop where
  os : W'.os = W.os
  tape : W'.tape = W.tape
  output : W'.output = W.output
  size : W.heap.size ≤ W'.heap.size
  block : ∀ k, k < W.heap.size → (k < B ∨ ∃ cells t, W.heap[k]? = some (.cells cells t (0, 0)) ∧ t ≠ 22 ∧ t ≠ 23) → W'.heap[k]? = W.heap[k]?
theorem Kp.of_below {B : Nat} {W W' : World} (h : Below W.heap.size W W') : Kp B W W' := ⟨h.os, h.tape, h.output, h.size, fun k hk _ => h.block k hk⟩
theorem Kp.refl (B : Nat) (W : World) : Kp B W W := Kp.of_below (Below.refl _ _)
theorem Kp.trans {B : Nat} {W W1 W2 : World} (h : Kp B W W1) (h2 : Kp B W1 W2) : Kp B W W2 :=
  ⟨h2.os.trans h.os, h2.tape.trans h.tape, h2.output.trans h.output, Nat.le_trans h.size h2.size, fun k hk hc => by
    have e1 := h.block k hk hc
    refine (h2.block k (Nat.lt_of_lt_of_le hk h.size) ?_).trans e1
    rcases hc with hc | ⟨cells, t, hc, h3⟩
    · exact .inl hc
    · exact .inr ⟨cells, t, e1.trans hc, h3⟩⟩
abbrev RI (W : World) (base : Nat) (v : Value) (l : List Int) : Prop := Kd.R (Kd.int .i64) 2 W base (fun _ => True) v l
abbrev SI (W : World) (base : Nat) (v : Value) (rows : List (List Int)) : Prop := Kd.S (Kd.slice 2 (Kd.int .i64)) 22 W base (fun _ => True) v rows
theorem RI.kp {B : Nat} {W W' : World} {base : Nat} {v : Value} {l : List Int} (h : RI W base v l) (hk : Kp B W W') : RI W' base v l :=
  Kd.R_mono (Kd.R_step (Kd.R_bound h) (fun k ho hlt => hk.block k hlt (Or.inr (by
    obtain ⟨_, _, _, q, hq, cells, hc⟩ := ho
    have hq2 : q = 2 := List.mem_singleton.1 hq
    subst hq2
    exact ⟨cells, _, hc, by decide, by decide⟩)))) (fun _ _ => trivial)
theorem RI.cap {W : World} {base : Nat} {A : Option Addr} {n c : Nat} {l : List Int} (h : RI W base (.slice A n c) l) : n ≤ c ∧ c ≤ maxLen ∧ (A = none → c = 0) := by
  have h1 := Kd.own_of_R h
  have h2 := (Kd.R_reads' h).2.1
  rcases h1.2 with ⟨e, _⟩ | ⟨g, cap, cur, e, _, _, _, h5, _⟩
  · injection e with e1 e2 e3
    exact ⟨h2, by omega, fun _ => e3⟩
  · injection e with e1 e2 e3
    exact ⟨h2, by omega, fun e4 => by rw [e4] at e1; cases e1⟩
theorem RI.at_ {W : World} {base : Nat} {A : Option Addr} {n c : Nat} {l : List Int} (h : RI W base (.slice A n c) l) (b : Addr) (hb : A = some b) (j : Nat) (u : Value) (hu : (l.map (Value.int .i64))[j]? = some u) : W.cell? (b.add j) = some u := by
  subst hb
  have hj : j < l.length := by
    have := (List.getElem?_eq_some_iff.1 hu).1
    simpa using this
  obtain ⟨g, c2, e, _⟩ := Kd.R_form h (by omega)
  injection e with e1 e2 e3
  injection e1 with e1
  subst e1
  have h1 := (Kd.R_celln 0 h (j : Int) (by omega) (by have := (Kd.R_reads' h).1; omega)).1
  rw [Int.toNat_natCast] at h1
  rw [Addr.add_lit, Nat.zero_add, h1, ← hu, List.getElem?_map, List.getElem?_eq_getElem hj]
  unfold rdOf
  rw [Int.toNat_natCast, List.getD_eq_getElem?_getD, List.getElem?_eq_getElem hj]
  rfl
theorem info_int64 : ∃ i, Try.prog.info? 2 = some i ∧ i.zero = some (.int .i64 0) ∧ i.size = 1 ∧ i.bytes = 8 := by
  have h := slices_Clone.info
  cases e : Try.prog.info? 2 with
  | none => rw [e] at h; cases h
  | some i =>
    rw [e] at h
    simp only [Option.map_some, Option.some.injEq, Prod.mk.injEq] at h
    exact ⟨i, rfl, h.1, h.2.1, h.2.2⟩
/-- The boxes that 'more' holds: n, what has been found, 'more' itself. -/
def capsM (gn go gm : Nat) : Array Value := #[.pointer (some ⟨gn, 0, none⟩), .pointer (some ⟨go, 0, none⟩), .pointer (some ⟨gm, 0, none⟩)]
structure Out (W : World) (B n gn go gm : Nat) (rows : List (List Int)) (A : Option Addr) (c : Nat) : Prop where
  kn : W.heap[gn]? = some (.cells #[.int .i64 n] 3 (0, 0))
  km : W.heap[gm]? = some (.cells #[.func (.func 40) #[] (capsM gn go gm)] 54 (0, 0))
  ko : W.heap[go]? = some (.cells #[.slice A rows.length c] 23 (0, 0))
  hs : SI W B (.slice A rows.length c) rows
  hB : B ≤ go
theorem Out.below {W W' : World} {B n gn go gm : Nat} {rows : List (List Int)} {A : Option Addr} {c : Nat} (h : Out W B n gn go gm rows A c) (hb : Below W.heap.size W W') : Out W' B n gn go gm rows A c :=
  ⟨blk_below h.kn hb, blk_below h.km hb, blk_below h.ko hb, Kd.S_below h.hs hb, h.hB⟩
theorem Kp.row {B : Nat} {W W1 : World} {u : Value} {rows : List (List Int)} (h : SI W B u rows) (hg : W.grownBy W1 u.ownBlock) : Kp B W W1 :=
  ⟨hg.os, hg.tape, hg.output, hg.size, fun k hk hc => hg.block k hk (fun e => by
    rcases hc with hc | ⟨cells, t, hc, h2, _⟩
    · have := Kd.S_base h k e.symm
      omega
    · obtain ⟨c2, h3⟩ := Kd.S_typed h k e.symm
      rw [h3] at hc
      injection hc with hc
      injection hc with _ hc
      exact h2 hc.symm)⟩
theorem Kp.box {B go : Nat} {W : World} {cs : Array Value} (h : W.heap[go]? = some (.cells cs 23 (0, 0))) (hB : B ≤ go) (v : Value) : Kp B W (W.setCell ⟨go, 0, none⟩ v) :=
  ⟨rfl, rfl, rfl, by simp [World.setCell], fun k hk hc => Below.heap_setCell _ _ _ _ (fun e => by
    have e : k = go := e
    subst e
    rcases hc with hc | ⟨cells, t, hc, _, h2⟩
    · omega
    · rw [h] at hc
      injection hc with hc
      injection hc with _ hc
      exact h2 hc.symm)⟩
section
variable {ops : Array Oper} {oi : Oper} {a : Act} {W : World} {K : Act → World → Prop} {Q : Exit → Act → World → Prop} {E : Prop}
theorem lit1_step (x : Int) (hw : Region.wanted oi (yielded ops a.tmps) = true)
    (hr : (execOp a.eval oi).run Try.prog W = .ok (.value (.slice (some ⟨W.heap.size, 0, none⟩) 1 1)) (W.alloc (.cells #[.int .i64 x] 2)))
    (h : ∀ g w1, w1.heap[g]? = some (.cells #[.int .i64 x] 2 (0, 0)) → Below W.heap.size W w1 → K (a.put oi.dst (.slice (some ⟨g, 0, none⟩) 1 1)) w1) :
    if Region.wanted oi (yielded ops a.tmps) = true then Oper.wp Try.prog oi a W K Q else E := by
  rw [if_pos hw]
  unfold Oper.wp
  rw [hr]
  exact h _ _ (blk_new _ _) (below_alloc (Below.refl _ _) _)
theorem clip_step (A : Option Addr) (c : Nat) (l : List Int) (x : Int) (g : Nat) {base : Nat} (s t : Operand) (hg : oi.guard = none) (hop : oi.op = Op.call { callee := Callee.builtin Builtin.append, args := #[s, t], argTypes := #[22, 22] })
    (hR : RI W base (.slice A l.length c) l) (hs : a.eval s = .slice A l.length l.length) (ht : a.eval t = .slice (some ⟨g, 0, none⟩) 1 1) (hx : W.heap[g]? = some (.cells #[.int .i64 x] 2 (0, 0))) (hl : l.length ≤ 1000000)
    (h : ∀ A' c' w1, RI w1 W.heap.size (.slice A' (l.length + 1) c') (l ++ [x]) → Below W.heap.size W w1 → K (a.put oi.dst (.slice A' (l.length + 1) c')) w1) :
    if Region.wanted oi (yielded ops a.tmps) = true then Oper.wp Try.prog oi a W K Q else E := by
  obtain ⟨i, h1, h2, h3, h4⟩ := info_int64
  refine step_append_grows hg s t 22 hop 2 i (.int .i64 0) 1 8 Try.underlying22 h1 h2 h3 h4 rfl (by decide) A l.length l.length (l.map (Value.int .i64)) hs (fun e => ⟨by have := hR.cap; have := this.2.2 e; omega, by have := hR.cap; have := this.2.2 e; omega⟩) (by simp) (fun b hb => hR.at_ b hb) ⟨g, 0, none⟩ 1 1 [.int .i64 x] ht (by simp) ?_ (by intro u hu; rw [List.mem_singleton.1 hu]; rfl) (by omega) (by unfold maxLen; omega) (by omega) ?_
  · intro j u hu
    match j with
    | 0 =>
      have e : u = .int .i64 x := by simpa using hu.symm
      subst e
      exact (blk_cell hx 0).trans rfl
    | j + 1 => simp at hu
  · intro v' w' hown hgr
    have hb : Below W.heap.size W w' := ⟨hgr.os, hgr.tape, hgr.output, hgr.size, fun k hk => hgr.block k hk (by simp)⟩
    have hR' : RI w' W.heap.size v' (l ++ [x]) := Kd.R_of_own (xs := l ++ [x]) (by
      have e : encs (Value.int .i64) (l ++ [x]) = l.map (Value.int .i64) ++ [.int .i64 x] := by simp [encs]
      rw [e, List.length_append]
      exact hown) (fun _ _ => trivial)
    obtain ⟨A', c', rfl⟩ := Kd.R_slice hR'
    rw [List.length_append] at hR' ⊢
    exact h A' c' w' hR' hb
theorem goesV_ {N : Option Tmp} {f : FuncId} {fn : Func} {ag : Array Operand} {ts : Array TypeId} {t : Tmp} {caps : Array Value} (hf : Try.prog.funcs[f]? = some fn) (hname : (fn.name == "runtime.NumGoroutine") = false) (hb : fn.body.isSome = true) (args : Array Value)
    (hw : Region.wanted oi (yielded ops a.tmps) = true) (hN : oi.dst = N) (hop : oi.op = .call { callee := .value (.tmp t), args := ag, argTypes := ts }) (ht : a.eval (.tmp t) = .func (.func f) #[] caps) (hargs : ag.map a.eval = args)
    (h : Calls Try.prog f (args ++ caps) W fun e w' => ∃ v, e = .returned v ∧ K (a.put N v) w') : if Region.wanted oi (yielded ops a.tmps) = true then Oper.wp Try.prog oi a W K Q else K (a.put N undef) W := by
  refine call_ f (args ++ caps) hw hN ?_ h
  have he := enters_ hf hname hb (args ++ caps) W
  have ht2 : a.eval (.tmp t) = .func (.func f) #[] caps := ht
  unfold execOp
  simp [hop, resolve, Deferred.ofValue, invoke, ht2, hargs, he]
end
theorem flat_le {α : Type} (f : Nat → List α) (m k : Nat) (h : k < m) : ((List.range k).flatMap f).length + (f k).length ≤ ((List.range m).flatMap f).length := by
  obtain ⟨r, rfl⟩ : ∃ r, m = k + 1 + r := ⟨m - (k + 1), by omega⟩
  have e1 : List.range (k + 1 + r) = List.range k ++ [k] ++ (List.range r).map (k + 1 + ·) := by rw [List.range_add, List.range_succ]
  rw [e1, List.flatMap_append, List.flatMap_append, List.length_append, List.length_append, List.flatMap_singleton]
  omega
def impl_wordsOf_1.T1 : Bool × List (List Nat × List Nat) := (true, [([], []), ([], []), ([1], [1]), ([2], [2]), ([0, 3, 2], [0, 3]), ([4, 4, 0, 1, 2, 3, 4], [4])])
def impl_wordsOf_1.B1 : List Nat := [0, 0, 2, 6, 15, 31]
theorem impl_wordsOf_1.tab1 : rtab .any (opsOf Try.f40 1) = impl_wordsOf_1.T1 := by kernel_rfl
theorem impl_wordsOf_1.bits1 : waitsOk impl_wordsOf_1.T1.2 impl_wordsOf_1.B1 = true := by kernel_rfl
def impl_wordsOf_1.T5 : Bool × List (List Nat × List Nat) := (true, [([], []), ([], []), ([1], [1]), ([], []), ([3], [3]), ([2, 4, 2], [2, 4]), ([], []), ([6, 5], [6]), ([], []), ([], []), ([9], [9]), ([7, 8, 10, 7], [7, 8, 10]), ([], []), ([0, 5, 11, 12, 11], [0, 5, 11, 12])])
def impl_wordsOf_1.B5 : List Nat := [0, 0, 2, 0, 8, 30, 0, 126, 0, 0, 512, 2046, 0, 8191]
theorem impl_wordsOf_1.tab5 : rtab .any (opsOf Try.f40 5) = impl_wordsOf_1.T5 := by kernel_rfl
theorem impl_wordsOf_1.bits5 : waitsOk impl_wordsOf_1.T5.2 impl_wordsOf_1.B5 = true := by kernel_rfl
def impl_wordsOf_1.T8 : Bool × List (List Nat × List Nat) := (true, [([], []), ([], []), ([1], [1]), ([], []), ([3], [3]), ([2, 4, 2], [2, 4]), ([], []), ([6, 5], [6]), ([], []), ([8], [8]), ([7, 9, 7], [7, 9]), ([], []), ([11], [11]), ([0, 5, 10, 12, 10], [0, 5, 10, 12])])
def impl_wordsOf_1.B8 : List Nat := [0, 0, 2, 0, 8, 30, 0, 126, 0, 256, 1022, 0, 2048, 8191]
theorem impl_wordsOf_1.tab8 : rtab .any (opsOf Try.f40 8) = impl_wordsOf_1.T8 := by kernel_rfl
theorem impl_wordsOf_1.bits8 : waitsOk impl_wordsOf_1.T8.2 impl_wordsOf_1.B8 = true := by kernel_rfl
def loopF (n d : Nat) (l left : List Int) (next k : Nat) : List (List Int) := (List.range k).flatMap fun i => moreF n d (l ++ [left.getD i 0]) (left.eraseIdx i) next
theorem moreF_eq (n d : Nat) (l left : List Int) (next : Nat) : moreF n (d + 1) l left next = loopF n d l left next left.length ++ (if next < n then moreF n d (l ++ [(next : Int)]) (left ++ [(next : Int)]) (next + 1) else []) := rfl
theorem loopF_succ (n d : Nat) (l left : List Int) (next k : Nat) : loopF n d l left next (k + 1) = loopF n d l left next k ++ moreF n d (l ++ [left.getD k 0]) (left.eraseIdx k) next := by
  unfold loopF
  rw [List.range_succ, List.flatMap_append, List.flatMap_singleton]
theorem loopF_le (n d : Nat) (l left : List Int) (next k : Nat) (hk : k < left.length) : (loopF n d l left next k).length + (moreF n d (l ++ [left.getD k 0]) (left.eraseIdx k) next).length ≤ (moreF n (d + 1) l left next).length := by
  have h : (loopF n d l left next k).length + (moreF n d (l ++ [left.getD k 0]) (left.eraseIdx k) next).length ≤ (loopF n d l left next left.length).length := flat_le (fun i => moreF n d (l ++ [left.getD i 0]) (left.eraseIdx i) next) left.length k hk
  rw [moreF_eq, List.length_append]
  omega
theorem infoS : (Try.prog.info? 22).map (fun i => (i.zero, i.size, i.bytes)) = some (some (.slice none 0 0), (Kd.slice 2 (Kd.int .i64)).sz, 24) := by kernel_rfl
set_option maxHeartbeats 16000000 in
set_option maxRecDepth 1000000 in
theorem impl_wordsOf_1.calls (n B gn go gm : Nat) (hn : n ≤ 5) : ∀ (d : Nat) (l left : List Int) (next : Nat) (rows : List (List Int)) (vw vl : Value) (A : Option Addr) (c : Nat) (W : World),
    l.length + d = 2 * n → left.length ≤ l.length → next ≤ n → rows.length + (moreF n d l left next).length ≤ 1000000 → Out W B n gn go gm rows A c → RI W 0 vw l → RI W 0 vl left →
    Calls Try.prog 40 (#[vw, vl, .int .i64 next] ++ capsM gn go gm) W fun e W' => e = .returned (.tuple #[]) ∧ ∃ A' c', Out W' B n gn go gm (rows ++ moreF n d l left next) A' c' ∧ Kp B W W' := by
  intro d
  induction d with
  | zero =>
    intro l left next rows vw vl A c W hl hle hx hlen hO hw hleft
    obtain ⟨Aw, cw, rfl⟩ := Kd.R_slice hw
    obtain ⟨Al, cl, rfl⟩ := Kd.R_slice hleft
    have hcn : W.cell? ⟨gn, 0, none⟩ = some (.int .i64 n) := (blk_cell hO.kn 0).trans rfl
    have e1 : ((l.length : Int) == IntKind.i64.wrap (2 * (n : Int))) = true := beq_iff_eq.2 (by rw [Go.wrap_small _ (by omega) (by omega)]; omega)
    have e2 : ((l.length : Int) == 2 * (n : Int)) = true := beq_iff_eq.2 (by omega)
    have FC : Aside0 (slices_Clone_int64_int64.f l = some l) := ⟨by unfold slices_Clone_int64_int64.f; rw [if_pos (by omega)]⟩
    have LN := Aside0.mk hlen
    have BS : Aside0 (B ≤ W.drew.heap.size) := ⟨Nat.le_of_lt (Nat.lt_of_le_of_lt hO.hB (blk_lt hO.ko))⟩
    have OO0 := Aside0.mk (hO.below (below_drew1 (Below.refl _ _)))
    have RW := Aside0.mk (Kd.R_drew hw)
    have BD := Aside0.mk (below_drew1 (Below.refl W.heap.size W))
    show Calls Try.prog 40 #[.slice Aw l.length cw, .slice Al left.length cl, .int .i64 next, .pointer (some ⟨gn, 0, none⟩), .pointer (some ⟨go, 0, none⟩), .pointer (some ⟨gm, 0, none⟩)] W _
    clear hl hle hlen hO hw hleft
    go_enter Try.func40, Try.ntmps40
    go_wp2_with fail
    have OO := OO0
    clear OO0 hcn e1 e2
    refine start_ (n := 6) (S := fun w' => w'.cell? ⟨go, 0, none⟩ = some (.slice A rows.length c)) (ds := [5]) #[false, false, false, false, false, false] (by kernel_rfl) rfl rfl ((blk_cell OO.out.ko 0).trans rfl) (fun hHeld => ?_)
    refine with_tabW impl_wordsOf_1.tab1 impl_wordsOf_1.bits1 (fun HT_ HW_ => ?_)
    generalize W.drew = w0 at OO RW BS BD hHeld ⊢
    refine pure_ (i := 1) (N := some 17) (v := ?_) (a' := ?_) #[false, true, false, false, false, false] rfl rfl (any_of HT_.out (by kernel_rfl)) (fun _ _ _ h => h) (Or.inl ⟨by rfl, ?_⟩) ?_ ?_
    rotate_left
    · intro w'
      go_simp
      with_reducible rfl
    rotate_left
    · simp only [Act.put, List.setIfInBounds_toArray, List.set_cons_zero, List.set_cons_succ, i64_w, i32_w]
      rfl
    refine take_ (i := 0) (N := some 16) (v := ?_) (a' := ?_) #[true, true, false, false, false, false] rfl rfl (take_ofW HT_.out HW_.out (by kernel_rfl)) (fun _ _ _ h => h) (Or.inl ⟨by rfl, ?_⟩) hHeld ?_ ?_
    rotate_left
    · intro w' s0
      go_simp
      with_reducible rfl
    rotate_left
    · simp only [Act.put, List.setIfInBounds_toArray, List.set_cons_zero, List.set_cons_succ, i64_w, i32_w]
      rfl
    refine one_ (i := 2) (N := some 18) #[true, true, true, false, false, false] rfl rfl (one_of HT_.out (by kernel_rfl)) (by decide) (fun K hK => ?_)
    refine goes_ Try.func41 (by kernel_rfl) rfl #[.slice Aw l.length cw] (by rfl) rfl rfl (by simp only [List.map_toArray, List.map_cons, List.map_nil]; rfl) ?_
    with_reducible refine (slices_Clone_int64_int64.calls _ _ l l _ (Kd.R_reads' RW.out).2.2 (Kd.R_reads' RW.out).2.1 FC.out).mono ?_
    rintro e w1 ⟨v1, rfl, ho1, hb1⟩
    refine ⟨_, rfl, ?_⟩
    have OO1 := Aside0.mk (OO.out.below hb1)
    have R1 := Aside0.mk ho1
    have B1 := Aside0.mk hb1
    clear ho1 hb1 RW
    obtain ⟨A1, c1, e1⟩ := Kd.R_slice R1.out
    subst e1
    refine hK.out _ _ ((blk_cell OO1.out.ko 0).trans rfl) (fun hHeld => ?_)
    clear hK K
    refine norm_ (a' := ?_) ?_ ?_
    rotate_left
    · show Act.put _ (some 18) _ = _
      simp only [Act.put, List.setIfInBounds_toArray, List.set_cons_zero, List.set_cons_succ, i64_w, i32_w]
      rfl
    refine one_ (i := 3) (N := some 19) #[true, true, true, true, false, false] rfl rfl (one_of HT_.out (by kernel_rfl)) (by decide) (fun K hK => ?_)
    refine value_ (w1 := ?_) (v := ?_) (by rfl) rfl ?_ ?_
    rotate_left 2
    · go_simp
      constructor
      · rfl
      · rfl
    refine hK.out _ _ ((blk_cell (blk_alloc OO1.out.ko _) 0).trans rfl) (fun hHeld => ?_)
    clear hK K
    refine norm_ (a' := ?_) ?_ ?_
    rotate_left
    · show Act.put _ (some 19) _ = _
      simp only [Act.put, List.setIfInBounds_toArray, List.set_cons_zero, List.set_cons_succ, i64_w, i32_w]
      rfl
    refine one_ (i := 4) (N := some 20) #[true, true, true, true, true, false] rfl rfl (one_of HT_.out (by kernel_rfl)) (by decide) (fun K hK => ?_)
    refine Kd.S_append_step (Kd.slice 2 (Kd.int .i64)) (w0 := w1) B (by rfl) (.tmp 16) (.tmp 19) 23 22 (.slice none 0 0) 24 rfl Try.underlying23 infoS rfl (by decide) (by omega) (.slice A rows.length c) rows l [.slice A1 l.length c1] (fun _ => True) (fun k_ => some k_ = (.slice A1 l.length c1 : Value).ownBlock) rfl rfl ?aP ?aK (fun _ _ => trivial) ?aO (Below.refl _ _) ?aS ?aL ?_
    (case aP => exact ⟨_, rfl, Kd.R_tight rfl (Kd.R_lower R1.out BS.out)⟩)
    (case aK => exact fun k_ hk_ => ⟨trivial, fun e_ => by have h1_ := Kd.R_base R1.out k_ hk_.symm; have h2_ := Kd.S_lt OO.out.hs k_ e_.symm; omega⟩)
    (case aO => exact Kd.S_mono (Kd.S_below (Kd.S_bound OO.out.hs) B1.out) (fun k_ hk_ => ⟨trivial, fun e_ => by have h1_ := Kd.R_base R1.out k_ e_.symm; have h2_ := hk_.2.2.1; omega⟩))
    (case aS => exact Nat.le_trans BS.out B1.out.size)
    (case aL => have := LN.out; simp only [moreF, List.length_singleton] at this; omega)
    intro v3 w3 ho3 hb3 hg3 _
    have G3 := Aside0.mk hg3
    have S3 := Aside0.mk ho3
    have kn3 := Aside0.mk (blk_grown (g := gn) OO1.out.kn hg3 (Kd.S_ne OO1.out.hs OO1.out.kn (by decide)))
    have km3 := Aside0.mk (blk_grown (g := gm) OO1.out.km hg3 (Kd.S_ne OO1.out.hs OO1.out.km (by decide)))
    have ko3 := Aside0.mk (blk_grown (g := go) OO1.out.ko hg3 (Kd.S_ne OO1.out.hs OO1.out.ko (by decide)))
    have T3 := Aside0.mk (Kd.S_typed OO1.out.hs)
    clear ho3 hb3 hg3
    obtain ⟨A3, c3, e3⟩ := Kd.S_slice S3.out
    subst e3
    refine hK.out _ _ ((blk_cell ko3.out 0).trans rfl) (fun hHeld => ?_)
    clear hK K
    refine norm_ (a' := ?_) ?_ ?_
    rotate_left
    · show Act.put _ (some 20) _ = _
      simp only [Act.put, List.setIfInBounds_toArray, List.set_cons_zero, List.set_cons_succ, i64_w, i32_w]
      rfl
    refine last_ (i := 5) (N := none) #[true, true, true, true, true, true] rfl rfl (one_of HT_.out (by kernel_rfl)) (by decide) (fun K hK => ?_)
    have hs5 : w3.cell? ⟨go, 0, none⟩ = some (.slice A rows.length c) := (blk_cell ko3.out 0).trans rfl
    have hf5 := blk_frozen ko3.out 0
    refine skip_ (w1 := ?_) (by rfl) rfl ?_ ?_
    rotate_left
    · go_simp
      rfl
    refine hK.out _ _ ?_
    clear hK K
    refine done_ (done_of HT_.out (by kernel_rfl)) ?_
    try go_wp2
    refine bodyPost_ret (results_none rfl _ _ _) rfl ?_
    have hS4 := Kd.S_far (Kd.S_types S3.out ko3.out (by decide)) (p := ⟨go, 0, none⟩) (fun k_ hk_ => hk_.2) (.slice A3 (rows.length + 1) c3)
    refine ⟨rfl, A3, c3, ⟨?_, ?_, ?_, ?_, OO1.out.hB⟩, ?_⟩
    · exact blk_far kn3.out (fun e => by have h := kn3.out; have e : gn = go := e; rw [e, ko3.out] at h; injection h with h; injection h with _ h; cases h) _
    · exact blk_far km3.out (fun e => by have h := km3.out; have e : gm = go := e; rw [e, ko3.out] at h; injection h with h; injection h with _ h; cases h) _
    · exact blk_put ko3.out 0 _ (by show #[Value.slice A3 (rows.length + 1) c3] = #[.slice A3 (rows ++ [l]).length c3]; rw [List.length_append]; rfl)
    · exact Kd.S_mono hS4 (fun _ _ => trivial)
    · exact ((Kp.of_below (below_step BD.out B1.out)).trans (Kp.row OO1.out.hs G3.out)).trans (Kp.box ko3.out OO1.out.hB _)
  | succ d ih =>
    intro l left next rows vw vl A c W hl hle hx hlen hO hw hleft
    obtain ⟨Aw, cw, rfl⟩ := Kd.R_slice hw
    obtain ⟨Al, cl, rfl⟩ := Kd.R_slice hleft
    have hcn : W.cell? ⟨gn, 0, none⟩ = some (.int .i64 n) := (blk_cell hO.kn 0).trans rfl
    have e1 : ((l.length : Int) == 2 * (n : Int)) = false := beq_eq_false_iff_ne.2 (by omega)
    have e2 : ((l.length : Int) == wrap64 (2 * (n : Int))) = false := beq_eq_false_iff_ne.2 (by unfold wrap64; omega)
    have FL : Aside0 (slices_Clone_int64_int64.f left = some left) := ⟨by unfold slices_Clone_int64_int64.f; rw [if_pos (by omega)]⟩
    have LN := Aside0.mk hlen
    have HN := Aside0.mk hn
    have HL := Aside0.mk hl
    have HE := Aside0.mk hle
    have HX := Aside0.mk hx
    have IH := Aside0.mk ih
    have ML : Aside0 (left.length ≤ 1048576) := ⟨by omega⟩
    have OO0 := Aside0.mk hO
    have RW0 := Aside0.mk hw
    have RL0 := Aside0.mk hleft
    show Calls Try.prog 40 #[.slice Aw l.length cw, .slice Al left.length cl, .int .i64 next, .pointer (some ⟨gn, 0, none⟩), .pointer (some ⟨go, 0, none⟩), .pointer (some ⟨gm, 0, none⟩)] W _
    clear hl hle hx hlen hO hw hleft ih hn
    go_enter Try.func40, Try.ntmps40
    go_wp2
    clear hcn e1 e2
    go_loopg [23] (left.length + 1) (fun kq v23 w' => ∃ (k : Nat) (A1 : Option Addr) (c1 : Nat), v23 = .int .i64 k ∧ Aside0 (k ≤ left.length) ∧ Aside0 (kq = left.length + 1 - k) ∧ Aside0 (Out w' B n gn go gm (rows ++ loopF n d l left next k) A1 c1) ∧ Aside0 (RI w' 0 (.slice Aw l.length cw) l) ∧ Aside0 (RI w' 0 (.slice Al left.length cl) left) ∧ Aside0 (Kp B W w'))
    case atStart => exact ⟨0, A, c, rfl, ⟨Nat.zero_le _⟩, ⟨by omega⟩, ⟨by have h := OO0.out; simp only [loopF, List.range_zero, List.flatMap_nil, List.append_nil]; exact h⟩, RW0, RL0, ⟨Kp.refl _ _⟩⟩
    case round =>
      obtain ⟨k, A, c, rfl, KL, KQ, OO0, RW0, RL0, KP0⟩ := hrel
      by_cases hk : k < left.length
      · have c1 : decide ((k : Int) < (left.length : Int)) = true := decide_eq_true (by omega)
        have c2 : decide (k < left.length) = true := decide_eq_true hk
        cases gk with
        | zero => exact absurd KQ.out (by omega)
        | succ k1 =>
        obtain ⟨gl, capl, el, _⟩ := Kd.R_form RL0.out (by omega)
        injection el with el1 el2 el3
        subst el1
        obtain ⟨hx1, _⟩ := Kd.R_celln 0 RL0.out (k : Int) (by omega) (by omega)
        rw [Int.toNat_natCast] at hx1
        have e0 : rdOf 0 left (k : Int) = left.getD k 0 := by unfold rdOf; rw [Int.toNat_natCast]
        rw [e0] at hx1
        obtain ⟨x, hxv⟩ : ∃ x, left.getD k 0 = x := ⟨_, rfl⟩
        rw [hxv] at hx1
        have XV := Aside0.mk hxv
        have p1 : (0 ≤ (k : Int)) = True := eq_true (by omega)
        have q1 : ((k : Int) < (left.length : Int)) = True := eq_true (by omega)
        obtain ⟨j, hj⟩ : ∃ j, j = k + 1 := ⟨_, rfl⟩
        have HJ := Aside0.mk hj
        have E5 : Aside0 (wrap64 ((k : Int) + 1) = (j : Int)) := ⟨by have := ML.out; unfold wrap64; omega⟩
        clear e0 hj el2 el3 hxv
        go_wp2_with fail
        have OO := Aside0.mk (OO0.out.below (below_drew1 (Below.refl _ _)))
        have RW : Aside0 (RI wr.drew 0 (.slice Aw l.length cw) l) := ⟨Kd.R_drew RW0.out⟩
        have RL : Aside0 (RI wr.drew 0 (.slice (some ⟨gl, 0, none⟩) left.length cl) left) := ⟨Kd.R_drew RL0.out⟩
        have KP : Aside0 (Kp B W wr.drew) := ⟨KP0.out.trans (Kp.of_below (below_drew1 (Below.refl _ _)))⟩
        clear OO0 RW0 RL0 KP0 hx1
        refine start_ (n := 14) (S := fun w' => w'.cell? ⟨gm, 0, none⟩ = some (.func (.func 40) #[] (capsM gn go gm))) (ds := []) #[false, false, false, false, false, false, false, false, false, false, false, false, false, false] (by kernel_rfl) rfl rfl ((blk_cell OO.out.km 0).trans rfl) (fun hHeld => ?_)
        refine with_tabW impl_wordsOf_1.tab5 impl_wordsOf_1.bits5 (fun HT_ HW_ => ?_)
        generalize wr.drew = w0 at OO RW RL KP hHeld ⊢
        have HD := Aside0.mk (Below.refl w0.heap.size w0)
        refine pure_ (i := 1) (N := some 29) (v := ?_) (a' := ?_) #[false, true, false, false, false, false, false, false, false, false, false, false, false, false] rfl rfl (any_of HT_.out (by kernel_rfl)) (fun _ _ _ h => h) (Or.inl ⟨by rfl, ?_⟩) ?_ ?_
        rotate_left
        · intro w'
          go_simp
          with_reducible rfl
        rotate_left
        · simp only [Act.put, List.setIfInBounds_toArray, List.set_cons_zero, List.set_cons_succ, i64_w, i32_w]
          rfl
        refine pure_ (i := 3) (N := some 31) (v := ?_) (a' := ?_) #[false, true, false, true, false, false, false, false, false, false, false, false, false, false] rfl rfl (any_of HT_.out (by kernel_rfl)) (fun _ _ _ h => h) (Or.inl ⟨by rfl, ?_⟩) ?_ ?_
        rotate_left
        · intro w'
          go_simp
          with_reducible rfl
        rotate_left
        · simp only [Act.put, List.setIfInBounds_toArray, List.set_cons_zero, List.set_cons_succ, i64_w, i32_w]
          rfl
        refine pure_ (i := 6) (N := some 34) (v := ?_) (a' := ?_) #[false, true, false, true, false, false, true, false, false, false, false, false, false, false] rfl rfl (any_of HT_.out (by kernel_rfl)) (fun _ _ _ h => h) (Or.inl ⟨by rfl, ?_⟩) ?_ ?_
        rotate_left
        · intro w'
          go_simp
          with_reducible rfl
        rotate_left
        · simp only [Act.put, List.setIfInBounds_toArray, List.set_cons_zero, List.set_cons_succ, i64_w, i32_w]
          rfl
        refine pure_ (i := 8) (N := some 36) (v := ?_) (a' := ?_) #[false, true, false, true, false, false, true, false, true, false, false, false, false, false] rfl rfl (any_of HT_.out (by kernel_rfl)) (fun _ _ _ h => h) (Or.inl ⟨by rfl, ?_⟩) ?_ ?_
        rotate_left
        · intro w'
          go_simp
          with_reducible rfl
        rotate_left
        · simp only [Act.put, List.setIfInBounds_toArray, List.set_cons_zero, List.set_cons_succ, i64_w, i32_w]
          rfl
        refine pure_ (i := 9) (N := some 37) (v := ?_) (a' := ?_) #[false, true, false, true, false, false, true, false, true, true, false, false, false, false] rfl rfl (any_of HT_.out (by kernel_rfl)) (fun _ _ _ h => h) (Or.inl ⟨by rfl, ?_⟩) ?_ ?_
        rotate_left
        · intro w'
          go_simp
          with_reducible rfl
        rotate_left
        · simp only [Act.put, List.setIfInBounds_toArray, List.set_cons_zero, List.set_cons_succ, i64_w, i32_w]
          rfl
        refine pure_ (i := 10) (N := some 38) (v := ?_) (a' := ?_) #[false, true, false, true, false, false, true, false, true, true, true, false, false, false] rfl rfl (any_of HT_.out (by kernel_rfl)) (fun _ _ _ h => h) (Or.inl ⟨by rfl, ?_⟩) ?_ ?_
        rotate_left
        · intro w'
          go_simp
          with_reducible rfl
        rotate_left
        · simp only [Act.put, List.setIfInBounds_toArray, List.set_cons_zero, List.set_cons_succ, i64_w, i32_w]
          rfl
        refine pure_ (i := 12) (N := some 40) (v := ?_) (a' := ?_) #[false, true, false, true, false, false, true, false, true, true, true, false, true, false] rfl rfl (any_of HT_.out (by kernel_rfl)) (fun _ _ _ h => h) (Or.inl ⟨by rfl, ?_⟩) ?_ ?_
        rotate_left
        · intro w'
          go_simp
          with_reducible rfl
        rotate_left
        · simp only [Act.put, List.setIfInBounds_toArray, List.set_cons_zero, List.set_cons_succ, i64_w, i32_w]
          rfl
        refine take_ (i := 0) (N := some 28) (v := ?_) (a' := ?_) #[true, true, false, true, false, false, true, false, true, true, true, false, true, false] rfl rfl (take_ofW HT_.out HW_.out (by kernel_rfl)) (fun _ _ _ h => h) (Or.inl ⟨by rfl, ?_⟩) hHeld ?_ ?_
        rotate_left
        · intro w' s0
          go_simp
          with_reducible rfl
        rotate_left
        · simp only [Act.put, List.setIfInBounds_toArray, List.set_cons_zero, List.set_cons_succ, i64_w, i32_w]
          rfl
        refine join_ (σ := Nat) 4 #[true, true, true, true, true, false, true, false, true, true, true, false, true, false] (fun s => [(30, .slice Aw l.length l.length), (32, .slice (some ⟨s, 0, none⟩) 1 1)]) (fun s w' => w'.heap[s]? = some (.cells #[.int .i64 (x)] 2 (0, 0)) ∧ Below w0.heap.size w0 w') ?_ ?_
        rotate_left
        · intro hCont
          refine two_ (i := 2) (j := 4) (Ni := some 30) (Nj := some 32) #[true, true, true, true, false, false, true, false, true, true, true, false, true, false] #[true, true, false, true, true, false, true, false, true, true, true, false, true, false] rfl rfl rfl rfl (two_of HT_.out (by kernel_rfl)) (by decide) (by decide) (fun K hK => ?_) (fun K hK => ?_)
          · skip
            refine goes_ Try.func42 (by kernel_rfl) rfl #[.slice Aw l.length cw] (by rfl) rfl rfl (by simp only [List.map_toArray, List.map_cons, List.map_nil]; rfl) ?_
            with_reducible refine (slices_Clip_int64_int64.calls Aw l.length cw _ (RI.cap RW.out).1 (RI.cap RW.out).2.1 (RI.cap RW.out).2.2).mono ?_
            rintro e w_ ⟨rfl, rfl⟩
            refine ⟨_, rfl, ?_⟩
            refine hK.out _ _ ((blk_cell (blk_below OO.out.km HD.out) 0).trans rfl) (fun hHeld => ?_)
            clear hK K
            refine norm_ (a' := ?_) ?_ ?_
            rotate_left
            · show Act.put _ (some 30) _ = _
              simp only [Act.put, List.setIfInBounds_toArray, List.set_cons_zero, List.set_cons_succ, i64_w, i32_w]
              rfl
            refine one_ (i := 4) (N := some 32) #[true, true, true, true, true, false, true, false, true, true, true, false, true, false] rfl rfl (one_of HT_.out (by kernel_rfl)) (by decide) (fun K hK => ?_)
            refine lit1_step (x) (by rfl) ?hr ?_
            case hr => first | (go_simp; done) | (go_simp; rfl)
            intro g4 w4 hk4 hb4
            have n_ := Aside0.mk (below_step HD.out hb4)
            clear HD
            have HD := n_
            clear n_
            have L4 := Aside0.mk hk4
            clear hk4 hb4
            refine hK.out _ _ ((blk_cell (blk_below OO.out.km HD.out) 0).trans rfl) (fun hHeld => ?_)
            clear hK K
            refine norm_ (a' := ?_) ?_ ?_
            rotate_left
            · show Act.put _ (some 32) _ = _
              simp only [Act.put, List.setIfInBounds_toArray, List.set_cons_zero, List.set_cons_succ, i64_w, i32_w]
              rfl
            exact norm_ (by simp only [putAll, Act.put, List.setIfInBounds_toArray, List.set_cons_zero, List.set_cons_succ]) (hCont g4 _ ⟨L4.out, HD.out⟩)
          · skip
            refine lit1_step (x) (by rfl) ?hr ?_
            case hr => first | (go_simp; done) | (go_simp; rfl)
            intro g4 w4 hk4 hb4
            have n_ := Aside0.mk (below_step HD.out hb4)
            clear HD
            have HD := n_
            clear n_
            have L4 := Aside0.mk hk4
            clear hk4 hb4
            refine hK.out _ _ ((blk_cell (blk_below OO.out.km HD.out) 0).trans rfl) (fun hHeld => ?_)
            clear hK K
            refine norm_ (a' := ?_) ?_ ?_
            rotate_left
            · show Act.put _ (some 32) _ = _
              simp only [Act.put, List.setIfInBounds_toArray, List.set_cons_zero, List.set_cons_succ, i64_w, i32_w]
              rfl
            refine one_ (i := 2) (N := some 30) #[true, true, true, true, true, false, true, false, true, true, true, false, true, false] rfl rfl (one_of HT_.out (by kernel_rfl)) (by decide) (fun K hK => ?_)
            refine goes_ Try.func42 (by kernel_rfl) rfl #[.slice Aw l.length cw] (by rfl) rfl rfl (by simp only [List.map_toArray, List.map_cons, List.map_nil]; rfl) ?_
            with_reducible refine (slices_Clip_int64_int64.calls Aw l.length cw _ (RI.cap RW.out).1 (RI.cap RW.out).2.1 (RI.cap RW.out).2.2).mono ?_
            rintro e w_ ⟨rfl, rfl⟩
            refine ⟨_, rfl, ?_⟩
            refine hK.out _ _ ((blk_cell (blk_below OO.out.km HD.out) 0).trans rfl) (fun hHeld => ?_)
            clear hK K
            refine norm_ (a' := ?_) ?_ ?_
            rotate_left
            · show Act.put _ (some 30) _ = _
              simp only [Act.put, List.setIfInBounds_toArray, List.set_cons_zero, List.set_cons_succ, i64_w, i32_w]
              rfl
            exact norm_ (by simp only [putAll, Act.put, List.setIfInBounds_toArray, List.set_cons_zero, List.set_cons_succ]) (hCont g4 _ ⟨L4.out, HD.out⟩)
        rintro g4 wj ⟨hk4, hbj⟩
        have hHeld : wj.cell? ⟨gm, 0, none⟩ = some (.func (.func 40) #[] (capsM gn go gm)) := (blk_cell (blk_below OO.out.km hbj) 0).trans rfl
        have L4 := Aside0.mk hk4
        have BJ := Aside0.mk hbj
        clear hk4 hbj HD
        refine norm_ (a' := ?_) ?_ ?_
        rotate_left
        · simp only [putAll, Act.put, List.setIfInBounds_toArray, List.set_cons_zero, List.set_cons_succ]
          rfl
        refine one_ (i := 5) (N := some 33) #[true, true, true, true, true, true, true, false, true, true, true, false, true, false] rfl rfl (one_of HT_.out (by kernel_rfl)) (by decide) (fun K hK => ?_)
        refine clip_step Aw cw l (x) g4 (base := 0) (.tmp 30) (.tmp 32) rfl rfl (Kd.R_below RW.out BJ.out) rfl rfl L4.out ?aL ?_
        (case aL => have := HL.out; have := HN.out; omega)
        intro A5 c5 w5 hr5 hb5
        have R5 := Aside0.mk hr5
        have B5 := Aside0.mk (below_step BJ.out hb5)
        clear hr5 hb5 L4 BJ
        refine hK.out _ _ ((blk_cell (blk_below OO.out.km B5.out) 0).trans rfl) (fun hHeld => ?_)
        clear hK K
        refine norm_ (a' := ?_) ?_ ?_
        rotate_left
        · show Act.put _ (some 33) _ = _
          simp only [Act.put, List.setIfInBounds_toArray, List.set_cons_zero, List.set_cons_succ, i64_w, i32_w]
          rfl
        refine one_ (i := 7) (N := some 35) #[true, true, true, true, true, true, true, true, true, true, true, false, true, false] rfl rfl (one_of HT_.out (by kernel_rfl)) (by decide) (fun K hK => ?_)
        refine goes_ Try.func41 (by kernel_rfl) rfl #[.slice (some ⟨gl, 0, none⟩) left.length cl] (by rfl) rfl rfl (by simp only [List.map_toArray, List.map_cons, List.map_nil]; rfl) ?_
        with_reducible refine (slices_Clone_int64_int64.calls _ _ left left _ (Kd.R_reads' (Kd.R_below RL.out B5.out)).2.2 (Kd.R_reads' RL.out).2.1 FL.out).mono ?_
        rintro e w7 ⟨v7, rfl, ho7, hb7⟩
        refine ⟨_, rfl, ?_⟩
        have R57 := Aside0.mk (Kd.R_below (Kd.R_mono (ok' := fun k_ => k_ < w5.heap.size) (Kd.R_bound R5.out) (fun k_ hk_ => hk_.2.2.1)) hb7)
        have R7 := Aside0.mk ho7
        have B7 := Aside0.mk (below_step B5.out hb7)
        have Z7 := Aside0.mk (Nat.le_trans B5.out.size (Nat.le_refl _))
        clear ho7 hb7 R5
        obtain ⟨g7, c7, e7, hg7, hl7, _⟩ := Kd.R_form R7.out (show 0 < left.length by omega)
        subst e7
        have G7 := Aside0.mk hg7
        clear hg7 hl7
        refine hK.out _ _ ((blk_cell (blk_below OO.out.km B7.out) 0).trans rfl) (fun hHeld => ?_)
        clear hK K
        refine norm_ (a' := ?_) ?_ ?_
        rotate_left
        · show Act.put _ (some 35) _ = _
          simp only [Act.put, List.setIfInBounds_toArray, List.set_cons_zero, List.set_cons_succ, i64_w, i32_w]
          rfl
        refine one_ (i := 11) (N := some 39) #[true, true, true, true, true, true, true, true, true, true, true, true, true, false] rfl rfl (one_of HT_.out (by kernel_rfl)) (by decide) (fun K hK => ?_)
        refine goes_ Try.func43 (by kernel_rfl) rfl #[.slice (some ⟨g7, 0, none⟩) left.length c7, .int .i64 k, .int .i64 (wrap64 ((k : Int) + 1))] (by rfl) rfl rfl (by simp only [List.map_toArray, List.map_cons, List.map_nil]; rfl) ?_
        rw [E5.out]
        with_reducible refine (slices_Delete_int64_int64.calls g7 c7 k j _ _ left _ R7.out hk HJ.out ML.out).mono ?_
        rintro e w11 ⟨rfl, ho11, hg11⟩
        refine ⟨_, rfl, ?_⟩
        have R11 := Aside0.mk ho11
        have R511 := Aside0.mk (Kd.R_grown R57.out hg11 (fun k_ hk_ e_ => by have h1_ := Option.some.inj e_; have h2_ := G7.out; omega))
        have B11 : Aside0 (Below w0.heap.size w0 w11) := ⟨B7.out.grown hg11 B7.out.size (fun k_ hk_ => by cases hk_; have h1_ := G7.out; have h2_ := B5.out.size; omega)⟩
        clear ho11 hg11 R57 R7 B7 B5
        refine hK.out _ _ ((blk_cell (blk_below OO.out.km B11.out) 0).trans rfl) (fun hHeld => ?_)
        clear hK K
        refine norm_ (a' := ?_) ?_ ?_
        rotate_left
        · show Act.put _ (some 39) _ = _
          simp only [Act.put, List.setIfInBounds_toArray, List.set_cons_zero, List.set_cons_succ, i64_w, i32_w]
          rfl
        refine one_ (i := 13) (N := some 41) #[true, true, true, true, true, true, true, true, true, true, true, true, true, true] rfl rfl (one_of HT_.out (by kernel_rfl)) (by decide) (fun K hK => ?_)
        refine goesV_ Try.func40 (by kernel_rfl) rfl #[.slice A5 (l.length + 1) c5, .slice (some ⟨g7, 0, none⟩) (left.length - 1) c7, .int .i64 next] (by rfl) rfl rfl rfl (by simp only [List.map_toArray, List.map_cons, List.map_nil]; rfl) ?_
        refine (IH.out (l ++ [x]) (left.eraseIdx k) next (rows ++ loopF n d l left next k) _ _ A c _ ?i1 ?i2 HX.out ?i3 (OO.out.below B11.out) (Kd.R_lower (Kd.R_mono R511.out (fun _ _ => trivial)) (Nat.zero_le _)) (Kd.R_lower R11.out (Nat.zero_le _))).mono ?_
        (case i1 => rw [List.length_append, List.length_singleton]; have := HL.out; omega)
        (case i2 => rw [List.length_append, List.length_singleton, List.length_eraseIdx, if_pos hk]; have := HE.out; omega)
        (case i3 => have h1_ := LN.out; have h2_ := loopF_le n d l left next k hk; rw [XV.out] at h2_; rw [List.length_append]; omega)
        rintro e w13 ⟨rfl, A13, c13, hO13, hk13⟩
        refine ⟨_, rfl, ?_⟩
        have OO13 := Aside0.mk hO13
        have KP13 := Aside0.mk ((Kp.of_below B11.out).trans hk13)
        clear hO13 hk13 R11 R511 B11 OO
        refine hK.out _ _ ((blk_cell OO13.out.km 0).trans rfl) (fun hHeld => ?_)
        clear hK K
        refine norm_ (a' := ?_) ?_ ?_
        rotate_left
        · show Act.put _ (some 41) _ = _
          simp only [Act.put, List.setIfInBounds_toArray, List.set_cons_zero, List.set_cons_succ, i64_w, i32_w]
          rfl
        refine done_ (done_of HT_.out (by kernel_rfl)) ?_
        try go_wp2
        go_roundg k1
        case measure => omega
        case rel => exact ⟨j, A13, c13, congrArg (Value.int .i64) E5.out, ⟨by have := HJ.out; omega⟩, ⟨by have := HJ.out; have := KQ.out; omega⟩, ⟨by have h := OO13.out; rw [HJ.out, loopF_succ, XV.out, ← List.append_assoc]; exact h⟩, ⟨RI.kp RW.out KP13.out⟩, ⟨RI.kp RL.out KP13.out⟩, ⟨KP.out.trans KP13.out⟩⟩
      · have c1 : decide ((k : Int) < (left.length : Int)) = false := decide_eq_false (by omega)
        have c2 : decide (k < left.length) = false := decide_eq_false hk
        have hke : k = left.length := by have := KL.out; omega
        clear KQ KL hk
        subst hke
        have hcn : wr.cell? ⟨gn, 0, none⟩ = some (.int .i64 n) := (blk_cell OO0.out.kn 0).trans rfl
        by_cases hnx : next < n
        · have d1 : decide ((next : Int) < (n : Int)) = true := decide_eq_true (by omega)
          have d2 : decide (next < n) = true := decide_eq_true hnx
          obtain ⟨nx, hj⟩ : ∃ nx, nx = next + 1 := ⟨_, rfl⟩
          have HNX := Aside0.mk hj
          have E6 : Aside0 (wrap64 ((next : Int) + 1) = (nx : Int)) := ⟨by have := HN.out; unfold wrap64; omega⟩
          clear hj
          go_wp2_with fail
          have OO := Aside0.mk (OO0.out.below (below_drew1 (Below.refl _ _)))
          have RW : Aside0 (RI wr.drew 0 (.slice Aw l.length cw) l) := ⟨Kd.R_drew RW0.out⟩
          have RL : Aside0 (RI wr.drew 0 (.slice Al left.length cl) left) := ⟨Kd.R_drew RL0.out⟩
          have KP : Aside0 (Kp B W wr.drew) := ⟨KP0.out.trans (Kp.of_below (below_drew1 (Below.refl _ _)))⟩
          clear OO0 RW0 RL0 KP0 hcn
          refine start_ (n := 14) (S := fun w' => w'.cell? ⟨gm, 0, none⟩ = some (.func (.func 40) #[] (capsM gn go gm))) (ds := []) #[false, false, false, false, false, false, false, false, false, false, false, false, false, false] (by kernel_rfl) rfl rfl ((blk_cell OO.out.km 0).trans rfl) (fun hHeld => ?_)
          refine with_tabW impl_wordsOf_1.tab8 impl_wordsOf_1.bits8 (fun HT_ HW_ => ?_)
          generalize wr.drew = w0 at OO RW RL KP hHeld ⊢
          have HD := Aside0.mk (Below.refl w0.heap.size w0)
          refine pure_ (i := 1) (N := some 47) (v := ?_) (a' := ?_) #[false, true, false, false, false, false, false, false, false, false, false, false, false, false] rfl rfl (any_of HT_.out (by kernel_rfl)) (fun _ _ _ h => h) (Or.inl ⟨by rfl, ?_⟩) ?_ ?_
          rotate_left
          · intro w'
            go_simp
            with_reducible rfl
          rotate_left
          · simp only [Act.put, List.setIfInBounds_toArray, List.set_cons_zero, List.set_cons_succ, i64_w, i32_w]
            rfl
          refine pure_ (i := 3) (N := some 49) (v := ?_) (a' := ?_) #[false, true, false, true, false, false, false, false, false, false, false, false, false, false] rfl rfl (any_of HT_.out (by kernel_rfl)) (fun _ _ _ h => h) (Or.inl ⟨by rfl, ?_⟩) ?_ ?_
          rotate_left
          · intro w'
            go_simp
            with_reducible rfl
          rotate_left
          · simp only [Act.put, List.setIfInBounds_toArray, List.set_cons_zero, List.set_cons_succ, i64_w, i32_w]
            rfl
          refine pure_ (i := 6) (N := some 52) (v := ?_) (a' := ?_) #[false, true, false, true, false, false, true, false, false, false, false, false, false, false] rfl rfl (any_of HT_.out (by kernel_rfl)) (fun _ _ _ h => h) (Or.inl ⟨by rfl, ?_⟩) ?_ ?_
          rotate_left
          · intro w'
            go_simp
            with_reducible rfl
          rotate_left
          · simp only [Act.put, List.setIfInBounds_toArray, List.set_cons_zero, List.set_cons_succ, i64_w, i32_w]
            rfl
          refine pure_ (i := 8) (N := some 54) (v := ?_) (a' := ?_) #[false, true, false, true, false, false, true, false, true, false, false, false, false, false] rfl rfl (any_of HT_.out (by kernel_rfl)) (fun _ _ _ h => h) (Or.inl ⟨by rfl, ?_⟩) ?_ ?_
          rotate_left
          · intro w'
            go_simp
            with_reducible rfl
          rotate_left
          · simp only [Act.put, List.setIfInBounds_toArray, List.set_cons_zero, List.set_cons_succ, i64_w, i32_w]
            rfl
          refine pure_ (i := 11) (N := some 57) (v := ?_) (a' := ?_) #[false, true, false, true, false, false, true, false, true, false, false, true, false, false] rfl rfl (any_of HT_.out (by kernel_rfl)) (fun _ _ _ h => h) (Or.inl ⟨by rfl, ?_⟩) ?_ ?_
          rotate_left
          · intro w'
            go_simp
            with_reducible rfl
          rotate_left
          · simp only [Act.put, List.setIfInBounds_toArray, List.set_cons_zero, List.set_cons_succ, i64_w, i32_w]
            rfl
          refine pure_ (i := 12) (N := some 58) (v := ?_) (a' := ?_) #[false, true, false, true, false, false, true, false, true, false, false, true, true, false] rfl rfl (any_of HT_.out (by kernel_rfl)) (fun _ _ _ h => h) (Or.inl ⟨by rfl, ?_⟩) ?_ ?_
          rotate_left
          · intro w'
            go_simp
            with_reducible rfl
          rotate_left
          · simp only [Act.put, List.setIfInBounds_toArray, List.set_cons_zero, List.set_cons_succ, i64_w, i32_w]
            rfl
          refine take_ (i := 0) (N := some 46) (v := ?_) (a' := ?_) #[true, true, false, true, false, false, true, false, true, false, false, true, true, false] rfl rfl (take_ofW HT_.out HW_.out (by kernel_rfl)) (fun _ _ _ h => h) (Or.inl ⟨by rfl, ?_⟩) hHeld ?_ ?_
          rotate_left
          · intro w' s0
            go_simp
            with_reducible rfl
          rotate_left
          · simp only [Act.put, List.setIfInBounds_toArray, List.set_cons_zero, List.set_cons_succ, i64_w, i32_w]
            rfl
          refine join_ (σ := Nat × Nat × Option Addr × Nat) 2 #[true, true, true, true, true, true, true, true, true, true, false, true, true, false] (fun s => [(48, .slice Aw l.length l.length), (50, .slice (some ⟨s.1, 0, none⟩) 1 1), (51, .slice s.2.2.1 (l.length + 1) s.2.2.2), (53, .slice Al left.length left.length), (55, .slice (some ⟨s.2.1, 0, none⟩) 1 1)]) (fun s w' => w'.heap[s.2.1]? = some (.cells #[.int .i64 (next : Int)] 2 (0, 0)) ∧ RI w' 0 (.slice s.2.2.1 (l.length + 1) s.2.2.2) (l ++ [(next : Int)]) ∧ Below w0.heap.size w0 w') ?_ ?_
          rotate_left
          · intro hCont
            refine three_ (i := 2) (j := 4) (k := 9) (Ni := some 48) (Nj := some 50) (Nk := some 55) #[true, true, true, true, false, false, true, false, true, false, false, true, true, false] #[true, true, false, true, true, false, true, false, true, false, false, true, true, false] #[true, true, false, true, false, false, true, false, true, true, false, true, true, false] rfl rfl rfl rfl rfl rfl (three_of HT_.out (by kernel_rfl)) (by decide) (by decide) (by decide) (fun K hK => ?_) (fun K hK => ?_) (fun K hK => ?_)
            · skip
              refine goes_ Try.func42 (by kernel_rfl) rfl #[.slice Aw l.length cw] (by rfl) rfl rfl (by simp only [List.map_toArray, List.map_cons, List.map_nil]; rfl) ?_
              with_reducible refine (slices_Clip_int64_int64.calls Aw l.length cw _ (RI.cap RW.out).1 (RI.cap RW.out).2.1 (RI.cap RW.out).2.2).mono ?_
              rintro e w_ ⟨rfl, rfl⟩
              refine ⟨_, rfl, ?_⟩
              refine hK.out _ _ ((blk_cell (blk_below OO.out.km HD.out) 0).trans rfl) (fun hHeld => ?_)
              clear hK K
              refine norm_ (a' := ?_) ?_ ?_
              rotate_left
              · show Act.put _ (some 48) _ = _
                simp only [Act.put, List.setIfInBounds_toArray, List.set_cons_zero, List.set_cons_succ, i64_w, i32_w]
                rfl
              refine two_ (i := 4) (j := 9) (Ni := some 50) (Nj := some 55) #[true, true, true, true, true, false, true, false, true, false, false, true, true, false] #[true, true, true, true, false, false, true, false, true, true, false, true, true, false] rfl rfl rfl rfl (two_of HT_.out (by kernel_rfl)) (by decide) (by decide) (fun K hK => ?_) (fun K hK => ?_)
              · skip
                refine lit1_step (next : Int) (by rfl) ?hr ?_
                case hr => first | (go_simp; done) | (go_simp; rfl)
                intro g4 w4 hk4 hb4
                have n_ := Aside0.mk (below_step HD.out hb4)
                clear HD
                have HD := n_
                clear n_
                have L4 := Aside0.mk hk4
                clear hk4 hb4
                refine hK.out _ _ ((blk_cell (blk_below OO.out.km HD.out) 0).trans rfl) (fun hHeld => ?_)
                clear hK K
                refine norm_ (a' := ?_) ?_ ?_
                rotate_left
                · show Act.put _ (some 50) _ = _
                  simp only [Act.put, List.setIfInBounds_toArray, List.set_cons_zero, List.set_cons_succ, i64_w, i32_w]
                  rfl
                refine two_ (i := 5) (j := 9) (Ni := some 51) (Nj := some 55) #[true, true, true, true, true, true, true, false, true, false, false, true, true, false] #[true, true, true, true, true, false, true, false, true, true, false, true, true, false] rfl rfl rfl rfl (two_of HT_.out (by kernel_rfl)) (by decide) (by decide) (fun K hK => ?_) (fun K hK => ?_)
                · skip
                  refine clip_step Aw cw l (next : Int) g4 (base := 0) (.tmp 48) (.tmp 50) rfl rfl (Kd.R_below RW.out HD.out) rfl rfl L4.out ?aL ?_
                  (case aL => have := HL.out; have := HN.out; omega)
                  intro A5 c5 w5 hr5 hb5
                  have R5 : Aside0 (RI w5 0 (.slice A5 (l.length + 1) c5) (l ++ [(next : Int)])) := ⟨Kd.R_lower hr5 (Nat.zero_le _)⟩
                  have n_ := Aside0.mk (below_step HD.out hb5)
                  clear HD
                  have HD := n_
                  clear n_
                  clear hr5 hb5
                  refine hK.out _ _ ((blk_cell (blk_below OO.out.km HD.out) 0).trans rfl) (fun hHeld => ?_)
                  clear hK K
                  refine norm_ (a' := ?_) ?_ ?_
                  rotate_left
                  · show Act.put _ (some 51) _ = _
                    simp only [Act.put, List.setIfInBounds_toArray, List.set_cons_zero, List.set_cons_succ, i64_w, i32_w]
                    rfl
                  refine two_ (i := 7) (j := 9) (Ni := some 53) (Nj := some 55) #[true, true, true, true, true, true, true, true, true, false, false, true, true, false] #[true, true, true, true, true, true, true, false, true, true, false, true, true, false] rfl rfl rfl rfl (two_of HT_.out (by kernel_rfl)) (by decide) (by decide) (fun K hK => ?_) (fun K hK => ?_)
                  · skip
                    refine goes_ Try.func42 (by kernel_rfl) rfl #[.slice Al left.length cl] (by rfl) rfl rfl (by simp only [List.map_toArray, List.map_cons, List.map_nil]; rfl) ?_
                    with_reducible refine (slices_Clip_int64_int64.calls Al left.length cl _ (RI.cap RL.out).1 (RI.cap RL.out).2.1 (RI.cap RL.out).2.2).mono ?_
                    rintro e w_ ⟨rfl, rfl⟩
                    refine ⟨_, rfl, ?_⟩
                    refine hK.out _ _ ((blk_cell (blk_below OO.out.km HD.out) 0).trans rfl) (fun hHeld => ?_)
                    clear hK K
                    refine norm_ (a' := ?_) ?_ ?_
                    rotate_left
                    · show Act.put _ (some 53) _ = _
                      simp only [Act.put, List.setIfInBounds_toArray, List.set_cons_zero, List.set_cons_succ, i64_w, i32_w]
                      rfl
                    refine one_ (i := 9) (N := some 55) #[true, true, true, true, true, true, true, true, true, true, false, true, true, false] rfl rfl (one_of HT_.out (by kernel_rfl)) (by decide) (fun K hK => ?_)
                    refine lit1_step (next : Int) (by rfl) ?hr ?_
                    case hr => first | (go_simp; done) | (go_simp; rfl)
                    intro g9 w9 hk9 hb9
                    have n_ := Aside0.mk (below_step HD.out hb9)
                    clear HD
                    have HD := n_
                    clear n_
                    have n_ := Aside0.mk (Kd.R_below R5.out hb9)
                    clear R5
                    have R5 := n_
                    clear n_
                    have L9 := Aside0.mk hk9
                    clear hk9 hb9
                    refine hK.out _ _ ((blk_cell (blk_below OO.out.km HD.out) 0).trans rfl) (fun hHeld => ?_)
                    clear hK K
                    refine norm_ (a' := ?_) ?_ ?_
                    rotate_left
                    · show Act.put _ (some 55) _ = _
                      simp only [Act.put, List.setIfInBounds_toArray, List.set_cons_zero, List.set_cons_succ, i64_w, i32_w]
                      rfl
                    exact norm_ (by simp only [putAll, Act.put, List.setIfInBounds_toArray, List.set_cons_zero, List.set_cons_succ]) (hCont (g4, g9, A5, c5) _ ⟨L9.out, R5.out, HD.out⟩)
                  · skip
                    refine lit1_step (next : Int) (by rfl) ?hr ?_
                    case hr => first | (go_simp; done) | (go_simp; rfl)
                    intro g9 w9 hk9 hb9
                    have n_ := Aside0.mk (below_step HD.out hb9)
                    clear HD
                    have HD := n_
                    clear n_
                    have n_ := Aside0.mk (Kd.R_below R5.out hb9)
                    clear R5
                    have R5 := n_
                    clear n_
                    have L9 := Aside0.mk hk9
                    clear hk9 hb9
                    refine hK.out _ _ ((blk_cell (blk_below OO.out.km HD.out) 0).trans rfl) (fun hHeld => ?_)
                    clear hK K
                    refine norm_ (a' := ?_) ?_ ?_
                    rotate_left
                    · show Act.put _ (some 55) _ = _
                      simp only [Act.put, List.setIfInBounds_toArray, List.set_cons_zero, List.set_cons_succ, i64_w, i32_w]
                      rfl
                    refine one_ (i := 7) (N := some 53) #[true, true, true, true, true, true, true, true, true, true, false, true, true, false] rfl rfl (one_of HT_.out (by kernel_rfl)) (by decide) (fun K hK => ?_)
                    refine goes_ Try.func42 (by kernel_rfl) rfl #[.slice Al left.length cl] (by rfl) rfl rfl (by simp only [List.map_toArray, List.map_cons, List.map_nil]; rfl) ?_
                    with_reducible refine (slices_Clip_int64_int64.calls Al left.length cl _ (RI.cap RL.out).1 (RI.cap RL.out).2.1 (RI.cap RL.out).2.2).mono ?_
                    rintro e w_ ⟨rfl, rfl⟩
                    refine ⟨_, rfl, ?_⟩
                    refine hK.out _ _ ((blk_cell (blk_below OO.out.km HD.out) 0).trans rfl) (fun hHeld => ?_)
                    clear hK K
                    refine norm_ (a' := ?_) ?_ ?_
                    rotate_left
                    · show Act.put _ (some 53) _ = _
                      simp only [Act.put, List.setIfInBounds_toArray, List.set_cons_zero, List.set_cons_succ, i64_w, i32_w]
                      rfl
                    exact norm_ (by simp only [putAll, Act.put, List.setIfInBounds_toArray, List.set_cons_zero, List.set_cons_succ]) (hCont (g4, g9, A5, c5) _ ⟨L9.out, R5.out, HD.out⟩)
                · skip
                  refine lit1_step (next : Int) (by rfl) ?hr ?_
                  case hr => first | (go_simp; done) | (go_simp; rfl)
                  intro g9 w9 hk9 hb9
                  have n_ := Aside0.mk (below_step HD.out hb9)
                  clear HD
                  have HD := n_
                  clear n_
                  have n_ := Aside0.mk (blk_below L4.out hb9)
                  clear L4
                  have L4 := n_
                  clear n_
                  have L9 := Aside0.mk hk9
                  clear hk9 hb9
                  refine hK.out _ _ ((blk_cell (blk_below OO.out.km HD.out) 0).trans rfl) (fun hHeld => ?_)
                  clear hK K
                  refine norm_ (a' := ?_) ?_ ?_
                  rotate_left
                  · show Act.put _ (some 55) _ = _
                    simp only [Act.put, List.setIfInBounds_toArray, List.set_cons_zero, List.set_cons_succ, i64_w, i32_w]
                    rfl
                  refine one_ (i := 5) (N := some 51) #[true, true, true, true, true, true, true, false, true, true, false, true, true, false] rfl rfl (one_of HT_.out (by kernel_rfl)) (by decide) (fun K hK => ?_)
                  refine clip_step Aw cw l (next : Int) g4 (base := 0) (.tmp 48) (.tmp 50) rfl rfl (Kd.R_below RW.out HD.out) rfl rfl L4.out ?aL ?_
                  (case aL => have := HL.out; have := HN.out; omega)
                  intro A5 c5 w5 hr5 hb5
                  have n_ := Aside0.mk (blk_below L9.out hb5)
                  clear L9
                  have L9 := n_
                  clear n_
                  have R5 : Aside0 (RI w5 0 (.slice A5 (l.length + 1) c5) (l ++ [(next : Int)])) := ⟨Kd.R_lower hr5 (Nat.zero_le _)⟩
                  have n_ := Aside0.mk (below_step HD.out hb5)
                  clear HD
                  have HD := n_
                  clear n_
                  clear hr5 hb5
                  refine hK.out _ _ ((blk_cell (blk_below OO.out.km HD.out) 0).trans rfl) (fun hHeld => ?_)
                  clear hK K
                  refine norm_ (a' := ?_) ?_ ?_
                  rotate_left
                  · show Act.put _ (some 51) _ = _
                    simp only [Act.put, List.setIfInBounds_toArray, List.set_cons_zero, List.set_cons_succ, i64_w, i32_w]
                    rfl
                  refine one_ (i := 7) (N := some 53) #[true, true, true, true, true, true, true, true, true, true, false, true, true, false] rfl rfl (one_of HT_.out (by kernel_rfl)) (by decide) (fun K hK => ?_)
                  refine goes_ Try.func42 (by kernel_rfl) rfl #[.slice Al left.length cl] (by rfl) rfl rfl (by simp only [List.map_toArray, List.map_cons, List.map_nil]; rfl) ?_
                  with_reducible refine (slices_Clip_int64_int64.calls Al left.length cl _ (RI.cap RL.out).1 (RI.cap RL.out).2.1 (RI.cap RL.out).2.2).mono ?_
                  rintro e w_ ⟨rfl, rfl⟩
                  refine ⟨_, rfl, ?_⟩
                  refine hK.out _ _ ((blk_cell (blk_below OO.out.km HD.out) 0).trans rfl) (fun hHeld => ?_)
                  clear hK K
                  refine norm_ (a' := ?_) ?_ ?_
                  rotate_left
                  · show Act.put _ (some 53) _ = _
                    simp only [Act.put, List.setIfInBounds_toArray, List.set_cons_zero, List.set_cons_succ, i64_w, i32_w]
                    rfl
                  exact norm_ (by simp only [putAll, Act.put, List.setIfInBounds_toArray, List.set_cons_zero, List.set_cons_succ]) (hCont (g4, g9, A5, c5) _ ⟨L9.out, R5.out, HD.out⟩)
              · skip
                refine lit1_step (next : Int) (by rfl) ?hr ?_
                case hr => first | (go_simp; done) | (go_simp; rfl)
                intro g9 w9 hk9 hb9
                have n_ := Aside0.mk (below_step HD.out hb9)
                clear HD
                have HD := n_
                clear n_
                have L9 := Aside0.mk hk9
                clear hk9 hb9
                refine hK.out _ _ ((blk_cell (blk_below OO.out.km HD.out) 0).trans rfl) (fun hHeld => ?_)
                clear hK K
                refine norm_ (a' := ?_) ?_ ?_
                rotate_left
                · show Act.put _ (some 55) _ = _
                  simp only [Act.put, List.setIfInBounds_toArray, List.set_cons_zero, List.set_cons_succ, i64_w, i32_w]
                  rfl
                refine one_ (i := 4) (N := some 50) #[true, true, true, true, true, false, true, false, true, true, false, true, true, false] rfl rfl (one_of HT_.out (by kernel_rfl)) (by decide) (fun K hK => ?_)
                refine lit1_step (next : Int) (by rfl) ?hr ?_
                case hr => first | (go_simp; done) | (go_simp; rfl)
                intro g4 w4 hk4 hb4
                have n_ := Aside0.mk (below_step HD.out hb4)
                clear HD
                have HD := n_
                clear n_
                have n_ := Aside0.mk (blk_below L9.out hb4)
                clear L9
                have L9 := n_
                clear n_
                have L4 := Aside0.mk hk4
                clear hk4 hb4
                refine hK.out _ _ ((blk_cell (blk_below OO.out.km HD.out) 0).trans rfl) (fun hHeld => ?_)
                clear hK K
                refine norm_ (a' := ?_) ?_ ?_
                rotate_left
                · show Act.put _ (some 50) _ = _
                  simp only [Act.put, List.setIfInBounds_toArray, List.set_cons_zero, List.set_cons_succ, i64_w, i32_w]
                  rfl
                refine one_ (i := 5) (N := some 51) #[true, true, true, true, true, true, true, false, true, true, false, true, true, false] rfl rfl (one_of HT_.out (by kernel_rfl)) (by decide) (fun K hK => ?_)
                refine clip_step Aw cw l (next : Int) g4 (base := 0) (.tmp 48) (.tmp 50) rfl rfl (Kd.R_below RW.out HD.out) rfl rfl L4.out ?aL ?_
                (case aL => have := HL.out; have := HN.out; omega)
                intro A5 c5 w5 hr5 hb5
                have n_ := Aside0.mk (blk_below L9.out hb5)
                clear L9
                have L9 := n_
                clear n_
                have R5 : Aside0 (RI w5 0 (.slice A5 (l.length + 1) c5) (l ++ [(next : Int)])) := ⟨Kd.R_lower hr5 (Nat.zero_le _)⟩
                have n_ := Aside0.mk (below_step HD.out hb5)
                clear HD
                have HD := n_
                clear n_
                clear hr5 hb5
                refine hK.out _ _ ((blk_cell (blk_below OO.out.km HD.out) 0).trans rfl) (fun hHeld => ?_)
                clear hK K
                refine norm_ (a' := ?_) ?_ ?_
                rotate_left
                · show Act.put _ (some 51) _ = _
                  simp only [Act.put, List.setIfInBounds_toArray, List.set_cons_zero, List.set_cons_succ, i64_w, i32_w]
                  rfl
                refine one_ (i := 7) (N := some 53) #[true, true, true, true, true, true, true, true, true, true, false, true, true, false] rfl rfl (one_of HT_.out (by kernel_rfl)) (by decide) (fun K hK => ?_)
                refine goes_ Try.func42 (by kernel_rfl) rfl #[.slice Al left.length cl] (by rfl) rfl rfl (by simp only [List.map_toArray, List.map_cons, List.map_nil]; rfl) ?_
                with_reducible refine (slices_Clip_int64_int64.calls Al left.length cl _ (RI.cap RL.out).1 (RI.cap RL.out).2.1 (RI.cap RL.out).2.2).mono ?_
                rintro e w_ ⟨rfl, rfl⟩
                refine ⟨_, rfl, ?_⟩
                refine hK.out _ _ ((blk_cell (blk_below OO.out.km HD.out) 0).trans rfl) (fun hHeld => ?_)
                clear hK K
                refine norm_ (a' := ?_) ?_ ?_
                rotate_left
                · show Act.put _ (some 53) _ = _
                  simp only [Act.put, List.setIfInBounds_toArray, List.set_cons_zero, List.set_cons_succ, i64_w, i32_w]
                  rfl
                exact norm_ (by simp only [putAll, Act.put, List.setIfInBounds_toArray, List.set_cons_zero, List.set_cons_succ]) (hCont (g4, g9, A5, c5) _ ⟨L9.out, R5.out, HD.out⟩)
            · skip
              refine lit1_step (next : Int) (by rfl) ?hr ?_
              case hr => first | (go_simp; done) | (go_simp; rfl)
              intro g4 w4 hk4 hb4
              have n_ := Aside0.mk (below_step HD.out hb4)
              clear HD
              have HD := n_
              clear n_
              have L4 := Aside0.mk hk4
              clear hk4 hb4
              refine hK.out _ _ ((blk_cell (blk_below OO.out.km HD.out) 0).trans rfl) (fun hHeld => ?_)
              clear hK K
              refine norm_ (a' := ?_) ?_ ?_
              rotate_left
              · show Act.put _ (some 50) _ = _
                simp only [Act.put, List.setIfInBounds_toArray, List.set_cons_zero, List.set_cons_succ, i64_w, i32_w]
                rfl
              refine two_ (i := 2) (j := 9) (Ni := some 48) (Nj := some 55) #[true, true, true, true, true, false, true, false, true, false, false, true, true, false] #[true, true, false, true, true, false, true, false, true, true, false, true, true, false] rfl rfl rfl rfl (two_of HT_.out (by kernel_rfl)) (by decide) (by decide) (fun K hK => ?_) (fun K hK => ?_)
              · skip
                refine goes_ Try.func42 (by kernel_rfl) rfl #[.slice Aw l.length cw] (by rfl) rfl rfl (by simp only [List.map_toArray, List.map_cons, List.map_nil]; rfl) ?_
                with_reducible refine (slices_Clip_int64_int64.calls Aw l.length cw _ (RI.cap RW.out).1 (RI.cap RW.out).2.1 (RI.cap RW.out).2.2).mono ?_
                rintro e w_ ⟨rfl, rfl⟩
                refine ⟨_, rfl, ?_⟩
                refine hK.out _ _ ((blk_cell (blk_below OO.out.km HD.out) 0).trans rfl) (fun hHeld => ?_)
                clear hK K
                refine norm_ (a' := ?_) ?_ ?_
                rotate_left
                · show Act.put _ (some 48) _ = _
                  simp only [Act.put, List.setIfInBounds_toArray, List.set_cons_zero, List.set_cons_succ, i64_w, i32_w]
                  rfl
                refine two_ (i := 5) (j := 9) (Ni := some 51) (Nj := some 55) #[true, true, true, true, true, true, true, false, true, false, false, true, true, false] #[true, true, true, true, true, false, true, false, true, true, false, true, true, false] rfl rfl rfl rfl (two_of HT_.out (by kernel_rfl)) (by decide) (by decide) (fun K hK => ?_) (fun K hK => ?_)
                · skip
                  refine clip_step Aw cw l (next : Int) g4 (base := 0) (.tmp 48) (.tmp 50) rfl rfl (Kd.R_below RW.out HD.out) rfl rfl L4.out ?aL ?_
                  (case aL => have := HL.out; have := HN.out; omega)
                  intro A5 c5 w5 hr5 hb5
                  have R5 : Aside0 (RI w5 0 (.slice A5 (l.length + 1) c5) (l ++ [(next : Int)])) := ⟨Kd.R_lower hr5 (Nat.zero_le _)⟩
                  have n_ := Aside0.mk (below_step HD.out hb5)
                  clear HD
                  have HD := n_
                  clear n_
                  clear hr5 hb5
                  refine hK.out _ _ ((blk_cell (blk_below OO.out.km HD.out) 0).trans rfl) (fun hHeld => ?_)
                  clear hK K
                  refine norm_ (a' := ?_) ?_ ?_
                  rotate_left
                  · show Act.put _ (some 51) _ = _
                    simp only [Act.put, List.setIfInBounds_toArray, List.set_cons_zero, List.set_cons_succ, i64_w, i32_w]
                    rfl
                  refine two_ (i := 7) (j := 9) (Ni := some 53) (Nj := some 55) #[true, true, true, true, true, true, true, true, true, false, false, true, true, false] #[true, true, true, true, true, true, true, false, true, true, false, true, true, false] rfl rfl rfl rfl (two_of HT_.out (by kernel_rfl)) (by decide) (by decide) (fun K hK => ?_) (fun K hK => ?_)
                  · skip
                    refine goes_ Try.func42 (by kernel_rfl) rfl #[.slice Al left.length cl] (by rfl) rfl rfl (by simp only [List.map_toArray, List.map_cons, List.map_nil]; rfl) ?_
                    with_reducible refine (slices_Clip_int64_int64.calls Al left.length cl _ (RI.cap RL.out).1 (RI.cap RL.out).2.1 (RI.cap RL.out).2.2).mono ?_
                    rintro e w_ ⟨rfl, rfl⟩
                    refine ⟨_, rfl, ?_⟩
                    refine hK.out _ _ ((blk_cell (blk_below OO.out.km HD.out) 0).trans rfl) (fun hHeld => ?_)
                    clear hK K
                    refine norm_ (a' := ?_) ?_ ?_
                    rotate_left
                    · show Act.put _ (some 53) _ = _
                      simp only [Act.put, List.setIfInBounds_toArray, List.set_cons_zero, List.set_cons_succ, i64_w, i32_w]
                      rfl
                    refine one_ (i := 9) (N := some 55) #[true, true, true, true, true, true, true, true, true, true, false, true, true, false] rfl rfl (one_of HT_.out (by kernel_rfl)) (by decide) (fun K hK => ?_)
                    refine lit1_step (next : Int) (by rfl) ?hr ?_
                    case hr => first | (go_simp; done) | (go_simp; rfl)
                    intro g9 w9 hk9 hb9
                    have n_ := Aside0.mk (below_step HD.out hb9)
                    clear HD
                    have HD := n_
                    clear n_
                    have n_ := Aside0.mk (Kd.R_below R5.out hb9)
                    clear R5
                    have R5 := n_
                    clear n_
                    have L9 := Aside0.mk hk9
                    clear hk9 hb9
                    refine hK.out _ _ ((blk_cell (blk_below OO.out.km HD.out) 0).trans rfl) (fun hHeld => ?_)
                    clear hK K
                    refine norm_ (a' := ?_) ?_ ?_
                    rotate_left
                    · show Act.put _ (some 55) _ = _
                      simp only [Act.put, List.setIfInBounds_toArray, List.set_cons_zero, List.set_cons_succ, i64_w, i32_w]
                      rfl
                    exact norm_ (by simp only [putAll, Act.put, List.setIfInBounds_toArray, List.set_cons_zero, List.set_cons_succ]) (hCont (g4, g9, A5, c5) _ ⟨L9.out, R5.out, HD.out⟩)
                  · skip
                    refine lit1_step (next : Int) (by rfl) ?hr ?_
                    case hr => first | (go_simp; done) | (go_simp; rfl)
                    intro g9 w9 hk9 hb9
                    have n_ := Aside0.mk (below_step HD.out hb9)
                    clear HD
                    have HD := n_
                    clear n_
                    have n_ := Aside0.mk (Kd.R_below R5.out hb9)
                    clear R5
                    have R5 := n_
                    clear n_
                    have L9 := Aside0.mk hk9
                    clear hk9 hb9
                    refine hK.out _ _ ((blk_cell (blk_below OO.out.km HD.out) 0).trans rfl) (fun hHeld => ?_)
                    clear hK K
                    refine norm_ (a' := ?_) ?_ ?_
                    rotate_left
                    · show Act.put _ (some 55) _ = _
                      simp only [Act.put, List.setIfInBounds_toArray, List.set_cons_zero, List.set_cons_succ, i64_w, i32_w]
                      rfl
                    refine one_ (i := 7) (N := some 53) #[true, true, true, true, true, true, true, true, true, true, false, true, true, false] rfl rfl (one_of HT_.out (by kernel_rfl)) (by decide) (fun K hK => ?_)
                    refine goes_ Try.func42 (by kernel_rfl) rfl #[.slice Al left.length cl] (by rfl) rfl rfl (by simp only [List.map_toArray, List.map_cons, List.map_nil]; rfl) ?_
                    with_reducible refine (slices_Clip_int64_int64.calls Al left.length cl _ (RI.cap RL.out).1 (RI.cap RL.out).2.1 (RI.cap RL.out).2.2).mono ?_
                    rintro e w_ ⟨rfl, rfl⟩
                    refine ⟨_, rfl, ?_⟩
                    refine hK.out _ _ ((blk_cell (blk_below OO.out.km HD.out) 0).trans rfl) (fun hHeld => ?_)
                    clear hK K
                    refine norm_ (a' := ?_) ?_ ?_
                    rotate_left
                    · show Act.put _ (some 53) _ = _
                      simp only [Act.put, List.setIfInBounds_toArray, List.set_cons_zero, List.set_cons_succ, i64_w, i32_w]
                      rfl
                    exact norm_ (by simp only [putAll, Act.put, List.setIfInBounds_toArray, List.set_cons_zero, List.set_cons_succ]) (hCont (g4, g9, A5, c5) _ ⟨L9.out, R5.out, HD.out⟩)
                · skip
                  refine lit1_step (next : Int) (by rfl) ?hr ?_
                  case hr => first | (go_simp; done) | (go_simp; rfl)
                  intro g9 w9 hk9 hb9
                  have n_ := Aside0.mk (below_step HD.out hb9)
                  clear HD
                  have HD := n_
                  clear n_
                  have n_ := Aside0.mk (blk_below L4.out hb9)
                  clear L4
                  have L4 := n_
                  clear n_
                  have L9 := Aside0.mk hk9
                  clear hk9 hb9
                  refine hK.out _ _ ((blk_cell (blk_below OO.out.km HD.out) 0).trans rfl) (fun hHeld => ?_)
                  clear hK K
                  refine norm_ (a' := ?_) ?_ ?_
                  rotate_left
                  · show Act.put _ (some 55) _ = _
                    simp only [Act.put, List.setIfInBounds_toArray, List.set_cons_zero, List.set_cons_succ, i64_w, i32_w]
                    rfl
                  refine one_ (i := 5) (N := some 51) #[true, true, true, true, true, true, true, false, true, true, false, true, true, false] rfl rfl (one_of HT_.out (by kernel_rfl)) (by decide) (fun K hK => ?_)
                  refine clip_step Aw cw l (next : Int) g4 (base := 0) (.tmp 48) (.tmp 50) rfl rfl (Kd.R_below RW.out HD.out) rfl rfl L4.out ?aL ?_
                  (case aL => have := HL.out; have := HN.out; omega)
                  intro A5 c5 w5 hr5 hb5
                  have n_ := Aside0.mk (blk_below L9.out hb5)
                  clear L9
                  have L9 := n_
                  clear n_
                  have R5 : Aside0 (RI w5 0 (.slice A5 (l.length + 1) c5) (l ++ [(next : Int)])) := ⟨Kd.R_lower hr5 (Nat.zero_le _)⟩
                  have n_ := Aside0.mk (below_step HD.out hb5)
                  clear HD
                  have HD := n_
                  clear n_
                  clear hr5 hb5
                  refine hK.out _ _ ((blk_cell (blk_below OO.out.km HD.out) 0).trans rfl) (fun hHeld => ?_)
                  clear hK K
                  refine norm_ (a' := ?_) ?_ ?_
                  rotate_left
                  · show Act.put _ (some 51) _ = _
                    simp only [Act.put, List.setIfInBounds_toArray, List.set_cons_zero, List.set_cons_succ, i64_w, i32_w]
                    rfl
                  refine one_ (i := 7) (N := some 53) #[true, true, true, true, true, true, true, true, true, true, false, true, true, false] rfl rfl (one_of HT_.out (by kernel_rfl)) (by decide) (fun K hK => ?_)
                  refine goes_ Try.func42 (by kernel_rfl) rfl #[.slice Al left.length cl] (by rfl) rfl rfl (by simp only [List.map_toArray, List.map_cons, List.map_nil]; rfl) ?_
                  with_reducible refine (slices_Clip_int64_int64.calls Al left.length cl _ (RI.cap RL.out).1 (RI.cap RL.out).2.1 (RI.cap RL.out).2.2).mono ?_
                  rintro e w_ ⟨rfl, rfl⟩
                  refine ⟨_, rfl, ?_⟩
                  refine hK.out _ _ ((blk_cell (blk_below OO.out.km HD.out) 0).trans rfl) (fun hHeld => ?_)
                  clear hK K
                  refine norm_ (a' := ?_) ?_ ?_
                  rotate_left
                  · show Act.put _ (some 53) _ = _
                    simp only [Act.put, List.setIfInBounds_toArray, List.set_cons_zero, List.set_cons_succ, i64_w, i32_w]
                    rfl
                  exact norm_ (by simp only [putAll, Act.put, List.setIfInBounds_toArray, List.set_cons_zero, List.set_cons_succ]) (hCont (g4, g9, A5, c5) _ ⟨L9.out, R5.out, HD.out⟩)
              · skip
                refine lit1_step (next : Int) (by rfl) ?hr ?_
                case hr => first | (go_simp; done) | (go_simp; rfl)
                intro g9 w9 hk9 hb9
                have n_ := Aside0.mk (below_step HD.out hb9)
                clear HD
                have HD := n_
                clear n_
                have n_ := Aside0.mk (blk_below L4.out hb9)
                clear L4
                have L4 := n_
                clear n_
                have L9 := Aside0.mk hk9
                clear hk9 hb9
                refine hK.out _ _ ((blk_cell (blk_below OO.out.km HD.out) 0).trans rfl) (fun hHeld => ?_)
                clear hK K
                refine norm_ (a' := ?_) ?_ ?_
                rotate_left
                · show Act.put _ (some 55) _ = _
                  simp only [Act.put, List.setIfInBounds_toArray, List.set_cons_zero, List.set_cons_succ, i64_w, i32_w]
                  rfl
                refine one_ (i := 2) (N := some 48) #[true, true, true, true, true, false, true, false, true, true, false, true, true, false] rfl rfl (one_of HT_.out (by kernel_rfl)) (by decide) (fun K hK => ?_)
                refine goes_ Try.func42 (by kernel_rfl) rfl #[.slice Aw l.length cw] (by rfl) rfl rfl (by simp only [List.map_toArray, List.map_cons, List.map_nil]; rfl) ?_
                with_reducible refine (slices_Clip_int64_int64.calls Aw l.length cw _ (RI.cap RW.out).1 (RI.cap RW.out).2.1 (RI.cap RW.out).2.2).mono ?_
                rintro e w_ ⟨rfl, rfl⟩
                refine ⟨_, rfl, ?_⟩
                refine hK.out _ _ ((blk_cell (blk_below OO.out.km HD.out) 0).trans rfl) (fun hHeld => ?_)
                clear hK K
                refine norm_ (a' := ?_) ?_ ?_
                rotate_left
                · show Act.put _ (some 48) _ = _
                  simp only [Act.put, List.setIfInBounds_toArray, List.set_cons_zero, List.set_cons_succ, i64_w, i32_w]
                  rfl
                refine one_ (i := 5) (N := some 51) #[true, true, true, true, true, true, true, false, true, true, false, true, true, false] rfl rfl (one_of HT_.out (by kernel_rfl)) (by decide) (fun K hK => ?_)
                refine clip_step Aw cw l (next : Int) g4 (base := 0) (.tmp 48) (.tmp 50) rfl rfl (Kd.R_below RW.out HD.out) rfl rfl L4.out ?aL ?_
                (case aL => have := HL.out; have := HN.out; omega)
                intro A5 c5 w5 hr5 hb5
                have n_ := Aside0.mk (blk_below L9.out hb5)
                clear L9
                have L9 := n_
                clear n_
                have R5 : Aside0 (RI w5 0 (.slice A5 (l.length + 1) c5) (l ++ [(next : Int)])) := ⟨Kd.R_lower hr5 (Nat.zero_le _)⟩
                have n_ := Aside0.mk (below_step HD.out hb5)
                clear HD
                have HD := n_
                clear n_
                clear hr5 hb5
                refine hK.out _ _ ((blk_cell (blk_below OO.out.km HD.out) 0).trans rfl) (fun hHeld => ?_)
                clear hK K
                refine norm_ (a' := ?_) ?_ ?_
                rotate_left
                · show Act.put _ (some 51) _ = _
                  simp only [Act.put, List.setIfInBounds_toArray, List.set_cons_zero, List.set_cons_succ, i64_w, i32_w]
                  rfl
                refine one_ (i := 7) (N := some 53) #[true, true, true, true, true, true, true, true, true, true, false, true, true, false] rfl rfl (one_of HT_.out (by kernel_rfl)) (by decide) (fun K hK => ?_)
                refine goes_ Try.func42 (by kernel_rfl) rfl #[.slice Al left.length cl] (by rfl) rfl rfl (by simp only [List.map_toArray, List.map_cons, List.map_nil]; rfl) ?_
                with_reducible refine (slices_Clip_int64_int64.calls Al left.length cl _ (RI.cap RL.out).1 (RI.cap RL.out).2.1 (RI.cap RL.out).2.2).mono ?_
                rintro e w_ ⟨rfl, rfl⟩
                refine ⟨_, rfl, ?_⟩
                refine hK.out _ _ ((blk_cell (blk_below OO.out.km HD.out) 0).trans rfl) (fun hHeld => ?_)
                clear hK K
                refine norm_ (a' := ?_) ?_ ?_
                rotate_left
                · show Act.put _ (some 53) _ = _
                  simp only [Act.put, List.setIfInBounds_toArray, List.set_cons_zero, List.set_cons_succ, i64_w, i32_w]
                  rfl
                exact norm_ (by simp only [putAll, Act.put, List.setIfInBounds_toArray, List.set_cons_zero, List.set_cons_succ]) (hCont (g4, g9, A5, c5) _ ⟨L9.out, R5.out, HD.out⟩)
            · skip
              refine lit1_step (next : Int) (by rfl) ?hr ?_
              case hr => first | (go_simp; done) | (go_simp; rfl)
              intro g9 w9 hk9 hb9
              have n_ := Aside0.mk (below_step HD.out hb9)
              clear HD
              have HD := n_
              clear n_
              have L9 := Aside0.mk hk9
              clear hk9 hb9
              refine hK.out _ _ ((blk_cell (blk_below OO.out.km HD.out) 0).trans rfl) (fun hHeld => ?_)
              clear hK K
              refine norm_ (a' := ?_) ?_ ?_
              rotate_left
              · show Act.put _ (some 55) _ = _
                simp only [Act.put, List.setIfInBounds_toArray, List.set_cons_zero, List.set_cons_succ, i64_w, i32_w]
                rfl
              refine two_ (i := 2) (j := 4) (Ni := some 48) (Nj := some 50) #[true, true, true, true, false, false, true, false, true, true, false, true, true, false] #[true, true, false, true, true, false, true, false, true, true, false, true, true, false] rfl rfl rfl rfl (two_of HT_.out (by kernel_rfl)) (by decide) (by decide) (fun K hK => ?_) (fun K hK => ?_)
              · skip
                refine goes_ Try.func42 (by kernel_rfl) rfl #[.slice Aw l.length cw] (by rfl) rfl rfl (by simp only [List.map_toArray, List.map_cons, List.map_nil]; rfl) ?_
                with_reducible refine (slices_Clip_int64_int64.calls Aw l.length cw _ (RI.cap RW.out).1 (RI.cap RW.out).2.1 (RI.cap RW.out).2.2).mono ?_
                rintro e w_ ⟨rfl, rfl⟩
                refine ⟨_, rfl, ?_⟩
                refine hK.out _ _ ((blk_cell (blk_below OO.out.km HD.out) 0).trans rfl) (fun hHeld => ?_)
                clear hK K
                refine norm_ (a' := ?_) ?_ ?_
                rotate_left
                · show Act.put _ (some 48) _ = _
                  simp only [Act.put, List.setIfInBounds_toArray, List.set_cons_zero, List.set_cons_succ, i64_w, i32_w]
                  rfl
                refine one_ (i := 4) (N := some 50) #[true, true, true, true, true, false, true, false, true, true, false, true, true, false] rfl rfl (one_of HT_.out (by kernel_rfl)) (by decide) (fun K hK => ?_)
                refine lit1_step (next : Int) (by rfl) ?hr ?_
                case hr => first | (go_simp; done) | (go_simp; rfl)
                intro g4 w4 hk4 hb4
                have n_ := Aside0.mk (below_step HD.out hb4)
                clear HD
                have HD := n_
                clear n_
                have n_ := Aside0.mk (blk_below L9.out hb4)
                clear L9
                have L9 := n_
                clear n_
                have L4 := Aside0.mk hk4
                clear hk4 hb4
                refine hK.out _ _ ((blk_cell (blk_below OO.out.km HD.out) 0).trans rfl) (fun hHeld => ?_)
                clear hK K
                refine norm_ (a' := ?_) ?_ ?_
                rotate_left
                · show Act.put _ (some 50) _ = _
                  simp only [Act.put, List.setIfInBounds_toArray, List.set_cons_zero, List.set_cons_succ, i64_w, i32_w]
                  rfl
                refine one_ (i := 5) (N := some 51) #[true, true, true, true, true, true, true, false, true, true, false, true, true, false] rfl rfl (one_of HT_.out (by kernel_rfl)) (by decide) (fun K hK => ?_)
                refine clip_step Aw cw l (next : Int) g4 (base := 0) (.tmp 48) (.tmp 50) rfl rfl (Kd.R_below RW.out HD.out) rfl rfl L4.out ?aL ?_
                (case aL => have := HL.out; have := HN.out; omega)
                intro A5 c5 w5 hr5 hb5
                have n_ := Aside0.mk (blk_below L9.out hb5)
                clear L9
                have L9 := n_
                clear n_
                have R5 : Aside0 (RI w5 0 (.slice A5 (l.length + 1) c5) (l ++ [(next : Int)])) := ⟨Kd.R_lower hr5 (Nat.zero_le _)⟩
                have n_ := Aside0.mk (below_step HD.out hb5)
                clear HD
                have HD := n_
                clear n_
                clear hr5 hb5
                refine hK.out _ _ ((blk_cell (blk_below OO.out.km HD.out) 0).trans rfl) (fun hHeld => ?_)
                clear hK K
                refine norm_ (a' := ?_) ?_ ?_
                rotate_left
                · show Act.put _ (some 51) _ = _
                  simp only [Act.put, List.setIfInBounds_toArray, List.set_cons_zero, List.set_cons_succ, i64_w, i32_w]
                  rfl
                refine one_ (i := 7) (N := some 53) #[true, true, true, true, true, true, true, true, true, true, false, true, true, false] rfl rfl (one_of HT_.out (by kernel_rfl)) (by decide) (fun K hK => ?_)
                refine goes_ Try.func42 (by kernel_rfl) rfl #[.slice Al left.length cl] (by rfl) rfl rfl (by simp only [List.map_toArray, List.map_cons, List.map_nil]; rfl) ?_
                with_reducible refine (slices_Clip_int64_int64.calls Al left.length cl _ (RI.cap RL.out).1 (RI.cap RL.out).2.1 (RI.cap RL.out).2.2).mono ?_
                rintro e w_ ⟨rfl, rfl⟩
                refine ⟨_, rfl, ?_⟩
                refine hK.out _ _ ((blk_cell (blk_below OO.out.km HD.out) 0).trans rfl) (fun hHeld => ?_)
                clear hK K
                refine norm_ (a' := ?_) ?_ ?_
                rotate_left
                · show Act.put _ (some 53) _ = _
                  simp only [Act.put, List.setIfInBounds_toArray, List.set_cons_zero, List.set_cons_succ, i64_w, i32_w]
                  rfl
                exact norm_ (by simp only [putAll, Act.put, List.setIfInBounds_toArray, List.set_cons_zero, List.set_cons_succ]) (hCont (g4, g9, A5, c5) _ ⟨L9.out, R5.out, HD.out⟩)
              · skip
                refine lit1_step (next : Int) (by rfl) ?hr ?_
                case hr => first | (go_simp; done) | (go_simp; rfl)
                intro g4 w4 hk4 hb4
                have n_ := Aside0.mk (below_step HD.out hb4)
                clear HD
                have HD := n_
                clear n_
                have n_ := Aside0.mk (blk_below L9.out hb4)
                clear L9
                have L9 := n_
                clear n_
                have L4 := Aside0.mk hk4
                clear hk4 hb4
                refine hK.out _ _ ((blk_cell (blk_below OO.out.km HD.out) 0).trans rfl) (fun hHeld => ?_)
                clear hK K
                refine norm_ (a' := ?_) ?_ ?_
                rotate_left
                · show Act.put _ (some 50) _ = _
                  simp only [Act.put, List.setIfInBounds_toArray, List.set_cons_zero, List.set_cons_succ, i64_w, i32_w]
                  rfl
                refine one_ (i := 2) (N := some 48) #[true, true, true, true, true, false, true, false, true, true, false, true, true, false] rfl rfl (one_of HT_.out (by kernel_rfl)) (by decide) (fun K hK => ?_)
                refine goes_ Try.func42 (by kernel_rfl) rfl #[.slice Aw l.length cw] (by rfl) rfl rfl (by simp only [List.map_toArray, List.map_cons, List.map_nil]; rfl) ?_
                with_reducible refine (slices_Clip_int64_int64.calls Aw l.length cw _ (RI.cap RW.out).1 (RI.cap RW.out).2.1 (RI.cap RW.out).2.2).mono ?_
                rintro e w_ ⟨rfl, rfl⟩
                refine ⟨_, rfl, ?_⟩
                refine hK.out _ _ ((blk_cell (blk_below OO.out.km HD.out) 0).trans rfl) (fun hHeld => ?_)
                clear hK K
                refine norm_ (a' := ?_) ?_ ?_
                rotate_left
                · show Act.put _ (some 48) _ = _
                  simp only [Act.put, List.setIfInBounds_toArray, List.set_cons_zero, List.set_cons_succ, i64_w, i32_w]
                  rfl
                refine one_ (i := 5) (N := some 51) #[true, true, true, true, true, true, true, false, true, true, false, true, true, false] rfl rfl (one_of HT_.out (by kernel_rfl)) (by decide) (fun K hK => ?_)
                refine clip_step Aw cw l (next : Int) g4 (base := 0) (.tmp 48) (.tmp 50) rfl rfl (Kd.R_below RW.out HD.out) rfl rfl L4.out ?aL ?_
                (case aL => have := HL.out; have := HN.out; omega)
                intro A5 c5 w5 hr5 hb5
                have n_ := Aside0.mk (blk_below L9.out hb5)
                clear L9
                have L9 := n_
                clear n_
                have R5 : Aside0 (RI w5 0 (.slice A5 (l.length + 1) c5) (l ++ [(next : Int)])) := ⟨Kd.R_lower hr5 (Nat.zero_le _)⟩
                have n_ := Aside0.mk (below_step HD.out hb5)
                clear HD
                have HD := n_
                clear n_
                clear hr5 hb5
                refine hK.out _ _ ((blk_cell (blk_below OO.out.km HD.out) 0).trans rfl) (fun hHeld => ?_)
                clear hK K
                refine norm_ (a' := ?_) ?_ ?_
                rotate_left
                · show Act.put _ (some 51) _ = _
                  simp only [Act.put, List.setIfInBounds_toArray, List.set_cons_zero, List.set_cons_succ, i64_w, i32_w]
                  rfl
                refine one_ (i := 7) (N := some 53) #[true, true, true, true, true, true, true, true, true, true, false, true, true, false] rfl rfl (one_of HT_.out (by kernel_rfl)) (by decide) (fun K hK => ?_)
                refine goes_ Try.func42 (by kernel_rfl) rfl #[.slice Al left.length cl] (by rfl) rfl rfl (by simp only [List.map_toArray, List.map_cons, List.map_nil]; rfl) ?_
                with_reducible refine (slices_Clip_int64_int64.calls Al left.length cl _ (RI.cap RL.out).1 (RI.cap RL.out).2.1 (RI.cap RL.out).2.2).mono ?_
                rintro e w_ ⟨rfl, rfl⟩
                refine ⟨_, rfl, ?_⟩
                refine hK.out _ _ ((blk_cell (blk_below OO.out.km HD.out) 0).trans rfl) (fun hHeld => ?_)
                clear hK K
                refine norm_ (a' := ?_) ?_ ?_
                rotate_left
                · show Act.put _ (some 53) _ = _
                  simp only [Act.put, List.setIfInBounds_toArray, List.set_cons_zero, List.set_cons_succ, i64_w, i32_w]
                  rfl
                exact norm_ (by simp only [putAll, Act.put, List.setIfInBounds_toArray, List.set_cons_zero, List.set_cons_succ]) (hCont (g4, g9, A5, c5) _ ⟨L9.out, R5.out, HD.out⟩)
          rintro ⟨g4, g9, A5, c5⟩ wj ⟨hk9, hr5, hbj⟩
          have hHeld : wj.cell? ⟨gm, 0, none⟩ = some (.func (.func 40) #[] (capsM gn go gm)) := (blk_cell (blk_below OO.out.km hbj) 0).trans rfl
          have L9 := Aside0.mk hk9
          have R5 := Aside0.mk hr5
          have BJ := Aside0.mk hbj
          clear hk9 hr5 hbj HD
          refine norm_ (a' := ?_) ?_ ?_
          rotate_left
          · simp only [putAll, Act.put, List.setIfInBounds_toArray, List.set_cons_zero, List.set_cons_succ]
            rfl
          refine one_ (i := 10) (N := some 56) #[true, true, true, true, true, true, true, true, true, true, true, true, true, false] rfl rfl (one_of HT_.out (by kernel_rfl)) (by decide) (fun K hK => ?_)
          refine clip_step Al cl left (next : Int) g9 (base := 0) (.tmp 53) (.tmp 55) rfl rfl (Kd.R_below RL.out BJ.out) rfl rfl L9.out ?aL ?_
          (case aL => have := HE.out; have := HL.out; have := HN.out; omega)
          intro A10 c10 w10 hr10 hb10
          have R10 := Aside0.mk hr10
          have R510 := Aside0.mk (Kd.R_below R5.out hb10)
          have B10 := Aside0.mk (below_step BJ.out hb10)
          clear hr10 hb10 L9 BJ R5
          refine hK.out _ _ ((blk_cell (blk_below OO.out.km B10.out) 0).trans rfl) (fun hHeld => ?_)
          clear hK K
          refine norm_ (a' := ?_) ?_ ?_
          rotate_left
          · show Act.put _ (some 56) _ = _
            simp only [Act.put, List.setIfInBounds_toArray, List.set_cons_zero, List.set_cons_succ, i64_w, i32_w]
            rfl
          refine one_ (i := 13) (N := some 59) #[true, true, true, true, true, true, true, true, true, true, true, true, true, true] rfl rfl (one_of HT_.out (by kernel_rfl)) (by decide) (fun K hK => ?_)
          refine goesV_ Try.func40 (by kernel_rfl) rfl #[.slice A5 (l.length + 1) c5, .slice A10 (left.length + 1) c10, .int .i64 (wrap64 ((next : Int) + 1))] (by rfl) rfl rfl rfl (by simp only [List.map_toArray, List.map_cons, List.map_nil]; rfl) ?_
          rw [E6.out]
          refine (IH.out (l ++ [(next : Int)]) (left ++ [(next : Int)]) nx (rows ++ loopF n d l left next left.length) _ _ A c _ ?i1 ?i2 ?i4 ?i3 (OO.out.below B10.out) R510.out (Kd.R_lower R10.out (Nat.zero_le _))).mono ?_
          (case i1 => rw [List.length_append, List.length_singleton]; have := HL.out; omega)
          (case i2 => have := HE.out; simp only [List.length_append, List.length_singleton]; omega)
          (case i4 => have := HNX.out; omega)
          (case i3 => have h1_ := LN.out; rw [moreF_eq, if_pos hnx, List.length_append, ← HNX.out] at h1_; rw [List.length_append]; omega)
          rintro e w13 ⟨rfl, A13, c13, hO13, hk13⟩
          refine ⟨_, rfl, ?_⟩
          have OO13 := Aside0.mk hO13
          have KP13 := Aside0.mk ((Kp.of_below B10.out).trans hk13)
          clear hO13 hk13 R10 R510 B10 OO
          refine hK.out _ _ ((blk_cell OO13.out.km 0).trans rfl) (fun hHeld => ?_)
          clear hK K
          refine norm_ (a' := ?_) ?_ ?_
          rotate_left
          · show Act.put _ (some 59) _ = _
            simp only [Act.put, List.setIfInBounds_toArray, List.set_cons_zero, List.set_cons_succ, i64_w, i32_w]
            rfl
          refine done_ (done_of HT_.out (by kernel_rfl)) ?_
          try go_wp2
          go_end0
          exact ⟨rfl, A13, c13, by have h := OO13.out; rw [moreF_eq, if_pos hnx, ← HNX.out, ← List.append_assoc]; exact h, KP.out.trans KP13.out⟩
        · have d1 : decide ((next : Int) < (n : Int)) = false := decide_eq_false (by omega)
          have d2 : decide (next < n) = false := decide_eq_false hnx
          go_wp2
          go_end0
          exact ⟨rfl, A, c, by have h := OO0.out; rw [moreF_eq, if_neg hnx, List.append_nil]; exact h, KP0.out⟩

end Go.Proofs.Ytflpdjmdkdgijaa.G
