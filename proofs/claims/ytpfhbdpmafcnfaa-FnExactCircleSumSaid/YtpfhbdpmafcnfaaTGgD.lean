-- Written by the session's program mk.py (which runs the kit's print.py over functions and over contracts given by hand).
import Derived.Test.YtpfhbdpmafcnfaaTG0
import Derived.Test.YtpfhbdpmafcnfaaTGgW
import Derived.Test.YtpfhbdpmafcnfaaTGgZ
namespace Go.Proofs.Ytpfhbdpmafcnfaa.G
open Go.RowKit Go.Maps Go.Proofs.YtpfhbdpmafcnfaaW.PrintWords Go.Proofs.YtpfhbdpmafcnfaaW.PrintLast Go.Proofs.YtpfhbdpmafcnfaaW.PrintMore
attribute [local go_sem] max2_int min2_int max_two min_two max_three min_three max_four min_four   -- for this text's walks alone
set_option linter.unusedVariables false
set_option linter.unusedSimpArgs false
def limR (p : Int) (xs : List S89) : Int × List S89 × Int := if 200 < xs.length then (0, [], 3) else (p, xs, 0)
set_option maxHeartbeats 4000000 in
set_option maxRecDepth 100000 in
theorem impl_limited_S.calls (a0 : Int) (v : Value) (xs : List S89) (w0 w : World) (hB : Below w0.heap.size w0 w) (hS : Kd.S k89 89 w w0.heap.size (fun _ => True) v xs) :
  Calls Try.prog 100 #[.agg #[.int .i64 a0, v]] w fun e w' => ∃ v', e = .returned (.tuple #[.agg #[.int .i64 (limR a0 xs).1, v'], .int .i64 (limR a0 xs).2.2]) ∧ Kd.S k89 89 w' w0.heap.size (fun _ => True) v' (limR a0 xs).2.1 ∧ Below w0.heap.size w0 w' ∧ Below w.heap.size w w' := by
 have hu49 := Try.underlying49
 obtain ⟨A, c, rfl⟩ := Kd.S_slice hS
 have HS := Aside0.mk hS
 have HB := Aside0.mk hB
 have k1 := blk_alloc (blk_new w (.cells #[.int .i64 a0, .slice A xs.length c] 49)) (.cells #[.int .i64 0, .slice none 0 0] 49)
 have k2 := blk_new (w.alloc (.cells #[.int .i64 a0, .slice A xs.length c] 49)) (.cells #[.int .i64 0, .slice none 0 0] 49)
 have s2 : (w.alloc (.cells #[.int .i64 a0, .slice A xs.length c] 49)).heap.size = w.heap.size + 1 := by simp
 rw [s2] at k2
 have K1 := Aside0.mk k1
 have K2 := Aside0.mk k2
 clear hS hB k1 k2 s2
 by_cases hc : 200 < xs.length
 ·have e0 : limR a0 xs = (0, [], 3) := by unfold limR; rw [if_pos hc]
  have hd : decide ((xs.length : Int) > 200) = true := decide_eq_true (by omega)
  have hd2 : decide ((200 : Int) < (xs.length : Int)) = true := decide_eq_true (by omega)
  have hd3 : decide (200 < xs.length) = true := decide_eq_true hc
  rw [e0]
  clear hc e0
  go_enter Try.func100, Try.ntmps100
  go_wp2
  refine bodyPost_ret (results_ct rfl _ _ (w.heap.size + 1) 49 #[.int .i64 0, .slice none 0 0] (0, 0) _ rfl K2.out Try.underlying49 rfl (by kernel_rfl)) rfl ?_
  exact ⟨_, rfl, Kd.S_nil _ _ _ _ _, below_alloc (below_alloc HB.out _) _, below_alloc (below_alloc (Below.refl _ _) _) _⟩
 have e0 : limR a0 xs = (a0, xs, 0) := by unfold limR; rw [if_neg hc]
 have hd : decide ((xs.length : Int) > 200) = false := decide_eq_false (by omega)
 have hd2 : decide ((200 : Int) < (xs.length : Int)) = false := decide_eq_false (by omega)
 have hd3 : decide (200 < xs.length) = false := decide_eq_false hc
 rw [e0]
 clear hc e0
 have k3 := blk_new (w.alloc (.cells #[.int .i64 a0, .slice A xs.length c] 49)) (.cells #[.int .i64 a0, .slice A xs.length c] 49)
 have s2 : (w.alloc (.cells #[.int .i64 a0, .slice A xs.length c] 49)).heap.size = w.heap.size + 1 := by simp
 rw [s2] at k3
 have K3 := Aside0.mk k3
 clear k3 s2
 go_enter Try.func100, Try.ntmps100
 go_wp2
 refine bodyPost_ret (results_ct rfl _ _ (w.heap.size + 1) 49 #[.int .i64 a0, .slice A xs.length c] (0, 0) _ rfl K3.out Try.underlying49 rfl (by kernel_rfl)) rfl ?_
 exact ⟨_, rfl, Kd.S_alloc (Kd.S_alloc HS.out _) _, below_alloc (below_alloc HB.out _) _, below_alloc (below_alloc (Below.refl _ _) _) _⟩
def csR (b : Bool) (p : Int) (R : List S89) : Int × List S89 × Int := if b = true then limR p R else (0, [], 1)
set_option maxHeartbeats 4000000 in
set_option maxRecDepth 100000 in
theorem impl_changedSum.calls (n : Nat) (fn : Func) (hn : Try.prog.funcs[n]? = some fn) (hnm : (fn.name == "runtime.NumGoroutine") = false) (hnb : fn.body.isSome = true) (k : Nat) (p : Int) (A : Option Addr) (c : Nat) (xs : List S89) (b : Bool) (R : List S89) (w : World)
  (hr : Kd.C k89 w A xs.length xs) (hc : xs.length ≤ c) (hs : impl_IsSum.f k p xs = some b)
  (hcl : b = true → ∀ w' : World, Below w.heap.size w w' → Calls Try.prog n #[.agg #[.int .i64 p, .slice A xs.length c]] w' fun e w'' => ∃ v, e = .returned (.agg #[.int .i64 p, v]) ∧ Kd.S k89 89 w'' w'.heap.size (fun _ => True) v R ∧ Below w'.heap.size w' w'') :
  Calls Try.prog 92 #[.agg #[.int .i64 p, .slice A xs.length c], .func (.func n) #[] #[]] w fun e w' => ∃ v, e = .returned (.tuple #[.agg #[.int .i64 (csR b p R).1, v], .int .i64 (csR b p R).2.2]) ∧ Kd.S k89 89 w' w.heap.size (fun _ => True) v (csR b p R).2.1 ∧ Below w.heap.size w w' := by
 have he : ∀ (args : Array Value) (W : World), Sem.run Try.prog (callFunc n args) W = .ok (.enter n args) W := fun args W => enters_ hn hnm hnb args W
 have hu49 := Try.underlying49
 have HR := Aside0.mk hr
 have HC := Aside0.mk hc
 have HS := Aside0.mk hs
 have HCL := Aside0.mk hcl
 have k2 := blk_alloc (blk_new w (.cells #[.int .i64 p, .slice A xs.length c] 49)) (.cells #[.int .i64 0, .slice none 0 0] 49)
 have k4 := blk_new (w.alloc (.cells #[.int .i64 p, .slice A xs.length c] 49)) (.cells #[.int .i64 0, .slice none 0 0] 49)
 have s4 : (w.alloc (.cells #[.int .i64 p, .slice A xs.length c] 49)).heap.size = w.heap.size + 1 := by simp
 rw [s4] at k4
 have KB0 := Aside0.mk k2
 have KR0 := Aside0.mk k4
 have HB0 := Aside0.mk (below_alloc (below_alloc (Below.refl w.heap.size w) (.cells #[.int .i64 p, .slice A xs.length c] 49)) (.cells #[.int .i64 0, .slice none 0 0] 49))
 clear hr hc hs hcl k2 k4 s4
 generalize hCR : csR b p R = CR
 obtain ⟨g0, yy, cd⟩ := CR
 have HCR := Aside0.mk hCR
 clear hCR
 go_enter Try.func92, Try.ntmps92
 go_wp2_with fail
 generalize (w.alloc (.cells #[.int .i64 p, .slice A xs.length c] 49)).alloc (.cells #[.int .i64 0, .slice none 0 0] 49) = w1 at KB0 KR0 HB0 ⊢
 obtain ⟨B4, e4⟩ : ∃ x, x = w.heap.size + 1 := ⟨_, rfl⟩
 obtain ⟨B2, e2⟩ : ∃ x, x = w.heap.size := ⟨_, rfl⟩
 have g4 : w.heap.size ≤ B4 := by omega
 rw [← e4] at KR0 ⊢
 rw [show w1.heap[w.heap.size]? = w1.heap[B2]? by rw [e2]] at KB0
 rw [show (Value.pointer (some ⟨w.heap.size, 0, none⟩)) = Value.pointer (some ⟨B2, 0, none⟩) by rw [e2]]
 clear e2 e4
 refine (impl_IsSum.calls k p _ _ xs b w1 (Kd.C_below HR.out HB0.out) HC.out HS.out).mono ?_
 rintro e w2 ⟨rfl, hb2⟩
 have KB2 := Aside0.mk (blk_below KB0.out hb2)
 have KR2 := Aside0.mk (blk_below KR0.out hb2)
 have HB2 := Aside0.mk (below_step HB0.out hb2)
 clear hb2 KB0 KR0 HB0
 have hx0 : w2.cell? ⟨B2, 0, none⟩ = some (.int .i64 p) := (blk_cell KB2.out 0).trans rfl
 have hx1 : w2.cell? ⟨B2, 1, none⟩ = some (.slice A xs.length c) := (blk_cell KB2.out 1).trans rfl
 have hq0 : w2.cell? ⟨B4, 0, none⟩ = some (.int .i64 0) := (blk_cell KR2.out 0).trans rfl
 have hq1 : w2.cell? ⟨B4, 1, none⟩ = some (.slice none 0 0) := (blk_cell KR2.out 1).trans rfl
 have hf0 := blk_frozen KR2.out 0
 have hf1 := blk_frozen KR2.out 1
 cases b
 ·have e0 : ((0 : Int), ([] : List S89), (1 : Int)) = (g0, yy, cd) := HCR.out
  cases e0
  go_wp2
  refine bodyPost_ret (results_ct rfl _ _ B4 49 #[.int .i64 0, .slice none 0 0] (0, 0) _ rfl (by refine blk_put (cs := #[.int .i64 0, .slice none 0 0]) ?_ 1 _ rfl; refine blk_put (cs := #[.int .i64 0, .slice none 0 0]) ?_ 0 _ rfl; exact KR2.out) Try.underlying49 rfl (by kernel_rfl)) rfl ?_
  exact ⟨_, rfl, Kd.S_nil _ _ _ _ _, below_set (below_set HB2.out g4) g4⟩
 have HLR := Aside0.mk (show limR p R = (g0, yy, cd) from HCR.out)
 go_wp2_with fail
 refine (HCL.out (by first | rfl | trivial) w2 HB2.out).mono ?_
 rintro e w3 ⟨v3, rfl, hS3, hb3⟩
 have HS3 := Aside0.mk (Kd.S_lower hS3 HB2.out.size)
 have HB3 := Aside0.mk (below_step HB2.out hb3)
 have KR3 := Aside0.mk (blk_below KR2.out hb3)
 clear hS3 hb3 hx0 hx1 hq0 hq1 hf0 hf1
 go_wp2_with fail
 refine (impl_limited_S.calls p v3 R w w3 HB3.out HS3.out).mono ?_
 rw [HLR.out]
 rintro e w5 ⟨v5, rfl, hS5, hb5, hb6⟩
 have HS5 := Aside0.mk (show Kd.S k89 89 w5 w.heap.size (fun _ => True) v5 yy from hS5)
 have HB5 := Aside0.mk hb5
 have KR5 := Aside0.mk (blk_below KR3.out hb6)
 clear hS5 hb5 hb6
 have hq0 : w5.cell? ⟨B4, 0, none⟩ = some (.int .i64 0) := (blk_cell KR5.out 0).trans rfl
 have hq1 : w5.cell? ⟨B4, 1, none⟩ = some (.slice none 0 0) := (blk_cell KR5.out 1).trans rfl
 have hf0 := blk_frozen KR5.out 0
 have hf1 := blk_frozen KR5.out 1
 obtain ⟨Au, cu, eu⟩ := Kd.S_slice HS5.out
 subst eu
 go_wp2
 refine bodyPost_ret (results_ct rfl _ _ B4 49 #[.int .i64 g0, .slice Au yy.length cu] (0, 0) _ rfl (by refine blk_put (cs := #[.int .i64 g0, .slice none 0 0]) ?_ 1 _ rfl; refine blk_put (cs := #[.int .i64 0, .slice none 0 0]) ?_ 0 _ rfl; exact KR5.out) Try.underlying49 rfl (by kernel_rfl)) rfl ?_
 exact ⟨_, rfl, Kd.S_set (Kd.S_set HS5.out KR5.out (by decide) 0 _) (blk_put KR5.out 0 _ rfl) (by decide) 1 _, below_set (below_set HB5.out g4) g4⟩
def impl_changed.T5 : Bool × List (List Nat × List Nat) := (true, [([], []), ([], []), ([], []), ([2], [2]), ([1, 3], [1, 3]), ([], []), ([5], [5]), ([0, 4, 6, 4], [0, 4, 6])])
def impl_changed.B5 : List Nat := [0, 0, 0, 4, 14, 0, 32, 127]
theorem impl_changed.tab5 : rtab .any (opsOf Try.f129 5) = impl_changed.T5 := by kernel_rfl
theorem impl_changed.bits5 : waitsOk impl_changed.T5.2 impl_changed.B5 = true := by kernel_rfl
section
variable {P : Program} {ops : Array Oper} {Q : Exit → Act → World → Prop}
theorem goesC_ {oi : Oper} {N : Option Tmp} {a : Act} {w : World} {K : Act → World → Prop} {f : FuncId} {fn : Func} {y : Operand} {os_ : Array Operand} {ts : Array TypeId} (hf : P.funcs[f]? = some fn) (hname : (fn.name == "runtime.NumGoroutine") = false) (hb : fn.body.isSome = true) (args caps : Array Value)
  (hw : Region.wanted oi (yielded ops a.tmps) = true) (hN : oi.dst = N) (hop : oi.op = .call { callee := .value y, args := os_, argTypes := ts }) (hy : a.eval y = .func (.func f) #[] caps) (hargs : os_.map a.eval = args)
  (h : Calls P f (args ++ caps) w fun e w' => ∃ v, e = .returned v ∧ K (a.put N v) w') : if Region.wanted oi (yielded ops a.tmps) = true then Oper.wp P oi a w K Q else K (a.put N undef) w := by
 refine call_ f (args ++ caps) hw hN ?_ h
 have he := enters_ hf hname hb (args ++ caps) w
 unfold execOp
 simp [hop, resolve, Deferred.ofValue, invoke, hargs, hy, he]
end
def chgZ (p : Int) (q : List Int → List S89) (L xs : List S89) : List S89 := xs.foldl (fun L x => addZ p x.f1 L (q x.f0)) L
theorem chgZ_snoc (p : Int) (q : List Int → List S89) (L xs : List S89) (x : S89) : chgZ p q L (xs ++ [x]) = addZ p x.f1 (chgZ p q L xs) (q x.f0) := by unfold chgZ; rw [List.foldl_append]; rfl
set_option maxHeartbeats 4000000 in
set_option maxRecDepth 100000 in
theorem impl_changed.calls (n : Nat) (fn : Func) (hn : Try.prog.funcs[n]? = some fn) (hnm : (fn.name == "runtime.NumGoroutine") = false) (hnb : fn.body.isSome = true) (caps : Array Value) (q : List Int → List S89) (qp : Int) (p : Int) (A : Option Addr) (c : Nat) (xs : List S89) (w : World)
  (hr : Kd.C k89 w A xs.length xs) (hc : xs.length ≤ c) (hp : 0 < p ∧ p ≤ 1000) (hl : xs.length ≤ 1000) (hq : ∀ x ∈ xs, (∀ y ∈ q x.f0, okW y.f0 ∧ (-1000000 ≤ y.f1 * x.f1 ∧ y.f1 * x.f1 ≤ 1000000)) ∧ (q x.f0).length ≤ 1000)
  (hcl : ∀ (x : S89) (A' : Option Addr) (c' : Nat) (w' : World), x ∈ xs → Below w.heap.size w w' → Kd.C (Kd.int .i64) w' A' x.f0.length x.f0 → x.f0.length ≤ c' → Calls Try.prog n (#[.slice A' x.f0.length c'] ++ caps) w' fun e w'' => ∃ v, e = .returned (.agg #[.int .i64 qp, v]) ∧ Kd.S k89 89 w'' w'.heap.size (fun _ => True) v (q x.f0) ∧ Below w'.heap.size w' w'') :
  Calls Try.prog 129 #[.agg #[.int .i64 p, .slice A xs.length c], .func (.func n) #[] caps] w fun e w' => ∃ v, e = .returned (.agg #[.int .i64 p, v]) ∧ Kd.S k89 89 w' w.heap.size (fun _ => True) v (nzT (chgZ p q [] xs)) ∧ Below w.heap.size w w' := by
 have hu49 := Try.underlying49
 have hu89 := Try.underlying89
 have HR := Aside0.mk hr
 have HP := Aside0.mk hp
 have HQ := Aside0.mk hq
 have HCL := Aside0.mk hcl
 have k2 := blk_alloc (blk_new w (.cells #[.int .i64 p, .slice A xs.length c] 49)) (.cells #[.int .i64 0, .slice none 0 0] 49)
 have k4 := blk_new (w.alloc (.cells #[.int .i64 p, .slice A xs.length c] 49)) (.cells #[.int .i64 0, .slice none 0 0] 49)
 have s4 : (w.alloc (.cells #[.int .i64 p, .slice A xs.length c] 49)).heap.size = w.heap.size + 1 := by simp
 rw [s4] at k4
 have hq0 : ((w.alloc (.cells #[.int .i64 p, .slice A xs.length c] 49)).alloc (.cells #[.int .i64 0, .slice none 0 0] 49)).cell? ⟨w.heap.size, 0, none⟩ = some (.int .i64 p) := (blk_cell k2 0).trans rfl
 have KB0 := Aside0.mk k2
 have KR0 := Aside0.mk k4
 have HB0 := Aside0.mk (below_alloc (below_alloc (Below.refl w.heap.size w) (.cells #[.int .i64 p, .slice A xs.length c] 49)) (.cells #[.int .i64 0, .slice none 0 0] 49))
 clear hr hc hp hq hcl k2 k4 s4
 go_enter Try.func129, Try.ntmps129
 go_wp2_with fail
 generalize (w.alloc (.cells #[.int .i64 p, .slice A xs.length c] 49)).alloc (.cells #[.int .i64 0, .slice none 0 0] 49) = w1 at hq0 KB0 KR0 HB0 ⊢
 clear hq0
 obtain ⟨B4, e4⟩ : ∃ x, x = w.heap.size + 1 := ⟨_, rfl⟩
 obtain ⟨B2, e2⟩ : ∃ x, x = w.heap.size := ⟨_, rfl⟩
 have g4 : w.heap.size ≤ B4 := by omega
 rw [← e4] at KR0 ⊢
 rw [show w1.heap[w.heap.size]? = w1.heap[B2]? by rw [e2]] at KB0
 rw [show (Value.pointer (some ⟨w.heap.size, 0, none⟩)) = Value.pointer (some ⟨B2, 0, none⟩) by rw [e2]]
 clear e2 e4
 refine (impl_newGather.calls p HP.out w1).mono ?_
 rintro e w2 ⟨g, b, rfl, hG2, hg2, hb2, hl2⟩
 have HG2 := Aside0.mk hG2
 have GB0 := Aside0.mk hb2
 have GB : Aside0 (w.heap.size ≤ b) := ⟨Nat.le_trans HB0.out.size hb2⟩
 have nB2 : B2 ≠ b := by have := blk_lt KB0.out; omega
 have nB4 : B4 ≠ b := by have := blk_lt KR0.out; omega
 have KB2 := Aside0.mk (blk_below KB0.out hl2)
 have KR2 := Aside0.mk (blk_below KR0.out hl2)
 have HB2 := Aside0.mk (below_step HB0.out hl2)
 have HR2 := Aside0.mk (Kd.C_below HR.out HB2.out)
 clear hG2 hg2 hb2 hl2 KB0 KR0 HB0
 have hz1 : w2.cell? ⟨B2, 1, none⟩ = some (.slice A xs.length c) := (blk_cell KB2.out 1).trans rfl
 go_wp2_with fail
 clear hz1
 go_loopw [14] (fun i wr => ∃ (k m : Nat), k ≤ xs.length ∧ i = .int .i64 k ∧ Aside0 (m ≤ 1000 * k) ∧ Aside0 (Gath wr g p b m (chgZ p q [] (xs.take k))) ∧ Aside0 (Kd.C k89 wr A xs.length xs) ∧ Aside0 (Below w.heap.size w wr) ∧ Aside0 (wr.heap[B2]? = some (.cells #[.int .i64 p, .slice A xs.length c] 49 (0, 0))) ∧ Aside0 (wr.heap[B4]? = some (.cells #[.int .i64 0, .slice none 0 0] 49 (0, 0)))) (fun i _ => xs.length - (intOf i).toNat)
 case atStart => exact ⟨0, 0, Nat.zero_le _, rfl, ⟨Nat.zero_le _⟩, HG2, HR2, HB2, KB2, KR2⟩
 case round =>
  obtain ⟨k, m, hk, rfl, HM, HG3, HR3, HB3, KB3, KR3⟩ := hrel
  by_cases hlt : k < xs.length
  case neg =>
   have hkl : k = xs.length := by omega
   subst hkl
   have HG4 : Aside0 (Gath wr g p b m (chgZ p q [] xs)) := ⟨by have := HG3.out; rwa [List.take_length] at this⟩
   have HM1 : Aside0 (m ≤ 1048576) := ⟨by have := HM.out; omega⟩
   go_wp2_with fail
   refine (impl_gather_sum.calls g p b m _ wr HG4.out HM1.out).mono ?_
   rintro e w5 ⟨v5, rfl, hS5, hb5⟩
   have HS5 := Aside0.mk (Kd.S_lower hS5 HB3.out.size)
   have HB5 := Aside0.mk (below_step HB3.out hb5)
   have KR5 := Aside0.mk (blk_below KR3.out hb5)
   clear hS5 hb5
   have hq0 : w5.cell? ⟨B4, 0, none⟩ = some (.int .i64 0) := (blk_cell KR5.out 0).trans rfl
   have hq1 : w5.cell? ⟨B4, 1, none⟩ = some (.slice none 0 0) := (blk_cell KR5.out 1).trans rfl
   have hf0 := blk_frozen KR5.out 0
   have hf1 := blk_frozen KR5.out 1
   obtain ⟨yy, hyy⟩ : ∃ y_ : List S89, y_ = List.filter (fun x => x.f1 != 0) (chgZ p q [] xs) := ⟨_, rfl⟩
   have NY := Aside0.mk hyy
   rw [← hyy] at HS5
   clear hyy
   obtain ⟨Au, cu, eu⟩ := Kd.S_slice HS5.out
   subst eu
   go_wp2
   refine bodyPost_ret (results_cell_row rfl _ _ B4 49 #[.int .i64 p, .slice Au yy.length cu] (0, 0) _ rfl (by refine blk_put (cs := #[.int .i64 p, .slice none 0 0]) ?_ 1 _ rfl; refine blk_put (cs := #[.int .i64 0, .slice none 0 0]) ?_ 0 _ rfl; exact KR5.out) Try.underlying49 rfl (by kernel_rfl)) rfl ?_
   refine ⟨_, rfl, ?_, below_set (below_set HB5.out g4) g4⟩
   show Kd.S k89 89 _ _ _ _ (nzT (chgZ p q [] xs))
   unfold nzT
   rw [← NY.out]
   exact Kd.S_set (Kd.S_set HS5.out KR5.out (by decide) 0 _) (blk_put KR5.out 0 _ rfl) (by decide) 1 _
  obtain ⟨ad, A0, c0, eA, hx0, hx1, hl0, hC0⟩ := at_T89 HR3.out k (by omega) (by omega)
  cases eA
  rw [Int.toNat_natCast] at hx0 hx1
  have HL0 := Aside0.mk hl0
  have HC00 := Aside0.mk hC0
  have HXM0 := Aside0.mk (rdT_mem hlt)
  have HT := Aside0.mk (take_rdT hlt)
  clear hl0 hC0
  generalize rd_T89 xs k = x at hx0 hx1 HL0 HC00 HXM0 HT
  have HXM := HXM0
  have HQ1 := Aside0.mk (HQ.out x HXM.out).1
  have HN5 : Aside0 (m + (q x.f0).length ≤ 1048576) := ⟨by have := (HQ.out x HXM.out).2; have := HM.out; omega⟩
  have HN6 : Aside0 (m + (q x.f0).length ≤ 1000 * (k + 1)) := ⟨by have := (HQ.out x HXM.out).2; have := HM.out; omega⟩
  go_wp2_with fail
  have bel := below_alloc (Below.refl wr.heap.size wr) (.cells #[.slice A0 x.f0.length c0, .int .i64 x.f1] 89)
  have KT3 := Aside0.mk (blk_new wr (.cells #[.slice A0 x.f0.length c0, .int .i64 x.f1] 89))
  have KB3a := Aside0.mk (blk_below KB3.out bel)
  have KR3a := Aside0.mk (blk_below KR3.out bel)
  have HG3a := Aside0.mk (HG3.out.below bel)
  have HR3a := Aside0.mk (Kd.C_below HR3.out bel)
  have HC3a := Aside0.mk (Kd.C_below HC00.out bel)
  have HB3a := Aside0.mk (below_step HB3.out bel)
  have nTB : wr.heap.size ≠ b := by have := HG3.out.b_lt; omega
  clear bel hx0 hx1
  generalize wr.alloc (.cells #[.slice A0 x.f0.length c0, .int .i64 x.f1] 89) = w3 at KT3 KB3a KR3a HG3a HR3a HC3a HB3a ⊢
  generalize wr.heap.size = TB at KT3 nTB ⊢
  have HG4 := Aside0.mk (HG3a.out.below (below_drew (Below.refl w3.heap.size w3)))
  have KT4 := Aside0.mk (blk_drew KT3.out)
  have KB4 := Aside0.mk (blk_drew KB3a.out)
  have KR4 := Aside0.mk (blk_drew KR3a.out)
  have HBW := Aside0.mk (below_drew1 HB3a.out)
  have HR4 := Aside0.mk (Kd.C_drew HR3a.out)
  have HC0 := Aside0.mk (Kd.C_drew HC3a.out)
  clear KT3 KB3a KR3a HG3a HR3a HC3a HB3a
  refine start_ (n := 8) (S := fun w' => w'.cell? ⟨TB, 0, none⟩ = some (.slice A0 x.f0.length c0) ∧ w'.cell? ⟨TB, 1, none⟩ = some (.int .i64 x.f1)) (ds := []) #[false, false, false, false, false, false, false, false] (by kernel_rfl) rfl rfl ⟨(blk_cell KT4.out 0).trans rfl, (blk_cell KT4.out 1).trans rfl⟩ (fun hHeld => ?_)
  refine with_tabW impl_changed.tab5 impl_changed.bits5 (fun HT_ HW_ => ?_)
  generalize w3.drew = w4 at HG4 KT4 KB4 KR4 HBW HR4 HC0 hHeld ⊢
  refine pure_ (i := 0) (N := some 18) (v := ?_) (a' := ?_) (bv 8 1) rfl rfl (any_of HT_.out (by kernel_rfl)) (fun _ _ _ h => h) (Or.inl ⟨by rfl, ?_⟩) ?_ ?_
  rotate_left
  ·intro w'
   go_simp
   with_reducible rfl
  rotate_left
  ·simp only [Act.put, sA, sZ, sS, i64_w, i32_w]
   rfl
  refine pure_ (i := 1) (N := some 19) (v := ?_) (a' := ?_) (bv 8 3) rfl rfl (any_of HT_.out (by kernel_rfl)) (fun _ _ _ h => h) (Or.inl ⟨by rfl, ?_⟩) ?_ ?_
  rotate_left
  ·intro w'
   go_simp
   with_reducible rfl
  rotate_left
  ·simp only [Act.put, sA, sZ, sS, i64_w, i32_w]
   rfl
  refine pure_ (i := 2) (N := some 20) (v := ?_) (a' := ?_) (bv 8 7) rfl rfl (any_of HT_.out (by kernel_rfl)) (fun _ _ _ h => h) (Or.inl ⟨by rfl, ?_⟩) ?_ ?_
  rotate_left
  ·intro w'
   go_simp
   with_reducible rfl
  rotate_left
  ·simp only [Act.put, sA, sZ, sS, i64_w, i32_w]
   rfl
  refine pure_ (i := 5) (N := some 23) (v := ?_) (a' := ?_) (bv 8 39) rfl rfl (any_of HT_.out (by kernel_rfl)) (fun _ _ _ h => h) (Or.inl ⟨by rfl, ?_⟩) ?_ ?_
  rotate_left
  ·intro w'
   go_simp
   with_reducible rfl
  rotate_left
  ·simp only [Act.put, sA, sZ, sS, i64_w, i32_w]
   rfl
  refine take_ (i := 3) (N := some 21) (v := ?_) (a' := ?_) (bv 8 47) rfl rfl (take_ofW HT_.out HW_.out (by kernel_rfl)) (fun _ _ _ h => h) (Or.inl ⟨by rfl, ?_⟩) hHeld ?_ ?_
  rotate_left
  ·rintro w' ⟨s0, s1⟩
   go_simp
   with_reducible rfl
  rotate_left
  ·simp only [Act.put, sA, sZ, sS, i64_w, i32_w]
   rfl
  refine take_ (i := 6) (N := some 24) (v := ?_) (a' := ?_) (bv 8 111) rfl rfl (take_ofW HT_.out HW_.out (by kernel_rfl)) (fun _ _ _ h => h) (Or.inl ⟨by rfl, ?_⟩) hHeld ?_ ?_
  rotate_left
  ·rintro w' ⟨s0, s1⟩
   go_simp
   with_reducible rfl
  rotate_left
  ·simp only [Act.put, sA, sZ, sS, i64_w, i32_w]
   rfl
  refine one_ (i := 4) (N := some 22) (bv 8 127) rfl rfl (one_of HT_.out (by kernel_rfl)) (by decide) (fun K hK => ?_)
  refine goesC_ hn hnm hnb #[.slice A0 x.f0.length c0] caps (by rfl) rfl rfl (by rfl) (by simp only [List.map_toArray, List.map_cons, List.map_nil]; rfl) ?_
  refine (HCL.out x A0 c0 _ HXM.out HBW.out HC0.out HL0.out).mono ?_
  rintro e w5 ⟨v5, rfl, hS5, hb5⟩
  refine ⟨_, rfl, ?_⟩
  have HS5 := Aside0.mk hS5
  have KT5 := Aside0.mk (blk_below KT4.out hb5)
  have KB5 := Aside0.mk (blk_below KB4.out hb5)
  have KR5 := Aside0.mk (blk_below KR4.out hb5)
  have HG5 := Aside0.mk (HG4.out.below hb5)
  have HBW5 := Aside0.mk (below_step HBW.out hb5)
  have HR5 := Aside0.mk (Kd.C_below HR4.out hb5)
  clear hS5 hb5
  obtain ⟨A5, c5, e5⟩ := Kd.S_slice HS5.out
  subst e5
  refine hK.out _ _ ⟨(blk_cell KT5.out 0).trans rfl, (blk_cell KT5.out 1).trans rfl⟩ (fun hHeld => ?_)
  clear hK K
  refine norm_ (a' := ?_) ?_ ?_
  rotate_left
  ·show Act.put _ (some 22) _ = _
   simp only [Act.put, sA, sZ, sS, i64_w, i32_w]
   rfl
  refine one_ (i := 7) (N := some 25) (bv 8 255) rfl rfl (one_of HT_.out (by kernel_rfl)) (by decide) (fun K hK => ?_)
  refine goes_ Try.func135 (by kernel_rfl) rfl #[.pointer (some ⟨g, 0, none⟩), .agg #[.int .i64 qp, .slice A5 (q x.f0).length c5], .int .i64 x.f1] (by rfl) rfl rfl (by simp only [List.map_toArray, List.map_cons, List.map_nil]; rfl) ?_
  with_reducible refine (impl_gather_addAll.calls g p b m _ qp _ _ (q x.f0) x.f1 _ HG5.out (Kd.S_reads' HS5.out).2.2 (Kd.S_reads' HS5.out).2.1 HQ1.out HN5.out).mono ?_
  rintro e w6 ⟨rfl, hG6, hg6⟩
  refine ⟨_, rfl, ?_⟩
  have HG6 := Aside0.mk hG6
  have HBW6 := Aside0.mk (HBW5.out.grown hg6 HBW5.out.size (fun j hj => by cases hj; exact GB.out))
  have KB6 := Aside0.mk (blk_grown (g := B2) KB5.out hg6 (fun e_ => nB2 (Option.some.inj e_)))
  have KR6 := Aside0.mk (blk_grown (g := B4) KR5.out hg6 (fun e_ => nB4 (Option.some.inj e_)))
  have KT6 := Aside0.mk (blk_grown (g := TB) KT5.out hg6 (fun e_ => nTB (Option.some.inj e_)))
  have HR6 := Aside0.mk (HG5.out.rowT hg6 HR5.out)
  clear hG6 hg6
  refine hK.out _ _ ⟨(blk_cell KT6.out 0).trans rfl, (blk_cell KT6.out 1).trans rfl⟩ (fun hHeld => ?_)
  clear hK K
  refine norm_ (a' := ?_) ?_ ?_
  rotate_left
  ·show Act.put _ (some 25) _ = _
   simp only [Act.put, sA, sZ, sS, i64_w, i32_w]
   rfl
  refine done_ (done_of HT_.out (by kernel_rfl)) ?_
  have HG7 : Aside0 (Gath w6 g p b (m + (q x.f0).length) (chgZ p q [] (xs.take (k + 1)))) := ⟨by rw [HT.out, chgZ_snoc]; exact HG6.out⟩
  try go_wp2
  go_roundw
  case rel => exact ⟨k + 1, m + (q x.f0).length, by omega, by go_num, HN6, HG7, HR6, HBW6, KB6, KR6⟩
  case measure => simp [intOf]; omega
def impl_renamed_1.T1 : Bool × List (List Nat × List Nat) := (true, [([], []), ([0], [0]), ([], []), ([], []), ([2, 3], [2, 3]), ([1, 4, 4], [1, 4]), ([5, 5, 0, 1, 2, 3, 4, 5], [5])])
def impl_renamed_1.B1 : List Nat := [0, 1, 0, 0, 12, 31, 63]
theorem impl_renamed_1.tab1 : rtab .any (opsOf Try.f130 1) = impl_renamed_1.T1 := by kernel_rfl
theorem impl_renamed_1.bits1 : waitsOk impl_renamed_1.T1.2 impl_renamed_1.B1 = true := by kernel_rfl
def oneT (p : Int) (l : List Int) : List S89 := nzT (putZ p [] l 1)
theorem oneT_mem {p : Int} {l : List Int} (hp : 0 < p) {y : S89} (h : y ∈ oneT p l) : y.f0 = l ∧ y.f1 = 1 := by
 unfold oneT nzT putZ at h
 obtain ⟨h1, h2⟩ := List.mem_filter.1 h
 rw [List.mem_singleton] at h1
 subst h1
 refine ⟨rfl, ?_⟩
 have h2 : (1 : Int) % p ≠ 0 := by simpa using h2
 show (1 : Int) % p = 1
 rcases Int.lt_or_le p 2 with h3 | h3
 ·have : p = 1 := by omega
  subst this
  simp at h2
 exact Int.emod_eq_of_lt (by omega) (by omega)
theorem oneT_length (p : Int) (l : List Int) : (oneT p l).length ≤ 1 := Nat.le_trans (List.length_filter_le _ _) (putZ_length p l 1 [])
set_option maxHeartbeats 4000000 in
set_option maxRecDepth 100000 in
theorem impl_renamed_1.calls (n : Nat) (fn : Func) (hn : Try.prog.funcs[n]? = some fn) (hnm : (fn.name == "runtime.NumGoroutine") = false) (hnb : fn.body.isSome = true) (caps : Array Value) (o : List Int → List Int) (bx bf : Nat) (p : Int) (u : Value) (A : Option Addr) (c : Nat) (l : List Int) (w : World)
  (hbx : w.heap[bx]? = some (.cells #[.int .i64 p, u] 49 (0, 0))) (hbf : w.heap[bf]? = some (.cells #[.func (.func n) #[] caps] 24 (0, 0))) (hp : 0 < p ∧ p ≤ 1000) (ho : okW (o l))
  (hcl : ∀ w', Below w.heap.size w w' → Calls Try.prog n (#[.slice A l.length c] ++ caps) w' fun e w'' => ∃ v, e = .returned v ∧ Kd.R (Kd.int .i64) 2 w'' w'.heap.size (fun _ => True) v (o l) ∧ Below w'.heap.size w' w'') :
  Calls Try.prog 130 (#[.slice A l.length c] ++ #[.pointer (some ⟨bx, 0, none⟩), .pointer (some ⟨bf, 0, none⟩)]) w fun e w' => ∃ v, e = .returned (.agg #[.int .i64 p, v]) ∧ Kd.S k89 89 w' w.heap.size (fun _ => True) v (oneT p (o l)) ∧ Below w.heap.size w w' := by
 have hu49 := Try.underlying49
 have HF : Aside0 (impl_single.f p (o l) 1 = some (p, oneT p (o l))) := ⟨by unfold impl_single.f; rw [if_pos ⟨hp, ho, by omega⟩]; rfl⟩
 have HCL := Aside0.mk hcl
 have KX0 := Aside0.mk (blk_alloc hbx (.cells #[.int .i64 0, .slice none 0 0] 49))
 have KF0 := Aside0.mk (blk_alloc hbf (.cells #[.int .i64 0, .slice none 0 0] 49))
 have KR0 := Aside0.mk (blk_new w (.cells #[.int .i64 0, .slice none 0 0] 49))
 have HB0 := Aside0.mk (below_alloc (Below.refl w.heap.size w) (.cells #[.int .i64 0, .slice none 0 0] 49))
 clear hbx hbf hp ho hcl
 show Calls Try.prog 130 #[.slice A l.length c, .pointer (some ⟨bx, 0, none⟩), .pointer (some ⟨bf, 0, none⟩)] w _
 go_enter Try.func130, Try.ntmps130
 go_wp2_with fail
 generalize w.alloc (.cells #[.int .i64 0, .slice none 0 0] 49) = w1 at KX0 KF0 KR0 HB0 ⊢
 have KX4 := Aside0.mk (blk_drew KX0.out)
 have KF4 := Aside0.mk (blk_drew KF0.out)
 have KR4 := Aside0.mk (blk_drew KR0.out)
 have HB4 := Aside0.mk (below_drew1 HB0.out)
 clear KX0 KF0 KR0 HB0
 refine start_ (n := 7) (S := fun w' => w'.cell? ⟨bx, 0, none⟩ = some (.int .i64 p) ∧ w'.cell? ⟨bf, 0, none⟩ = some (.func (.func n) #[] caps)) (ds := [6]) #[false, false, false, false, false, false, false] (by kernel_rfl) rfl rfl ⟨(blk_cell KX4.out 0).trans rfl, (blk_cell KF4.out 0).trans rfl⟩ (fun hHeld => ?_)
 refine with_tabW impl_renamed_1.tab1 impl_renamed_1.bits1 (fun HT_ HW_ => ?_)
 generalize w1.drew = w4 at KX4 KF4 KR4 HB4 hHeld ⊢
 refine pure_ (i := 0) (N := some 5) (v := ?_) (a' := ?_) (bv 7 1) rfl rfl (any_of HT_.out (by kernel_rfl)) (fun _ _ _ h => h) (Or.inl ⟨by rfl, ?_⟩) ?_ ?_
 rotate_left
 ·intro w'
  go_simp
  with_reducible rfl
 rotate_left
 ·simp only [Act.put, sA, sZ, sS, i64_w, i32_w]
  rfl
 refine pure_ (i := 3) (N := some 8) (v := ?_) (a' := ?_) (bv 7 9) rfl rfl (any_of HT_.out (by kernel_rfl)) (fun _ _ _ h => h) (Or.inl ⟨by rfl, ?_⟩) ?_ ?_
 rotate_left
 ·intro w'
  go_simp
  with_reducible rfl
 rotate_left
 ·simp only [Act.put, sA, sZ, sS, i64_w, i32_w]
  rfl
 refine take_ (i := 1) (N := some 6) (v := ?_) (a' := ?_) (bv 7 11) rfl rfl (take_ofW HT_.out HW_.out (by kernel_rfl)) (fun _ _ _ h => h) (Or.inl ⟨by rfl, ?_⟩) hHeld ?_ ?_
 rotate_left
 ·rintro w' ⟨s0, s1⟩
  go_simp
  with_reducible rfl
 rotate_left
 ·simp only [Act.put, sA, sZ, sS, i64_w, i32_w]
  rfl
 refine take_ (i := 2) (N := some 7) (v := ?_) (a' := ?_) (bv 7 15) rfl rfl (take_ofW HT_.out HW_.out (by kernel_rfl)) (fun _ _ _ h => h) (Or.inl ⟨by rfl, ?_⟩) hHeld ?_ ?_
 rotate_left
 ·rintro w' ⟨s0, s1⟩
  go_simp
  with_reducible rfl
 rotate_left
 ·simp only [Act.put, sA, sZ, sS, i64_w, i32_w]
  rfl
 refine one_ (i := 4) (N := some 9) (bv 7 31) rfl rfl (one_of HT_.out (by kernel_rfl)) (by decide) (fun K hK => ?_)
 refine goesC_ hn hnm hnb #[.slice A l.length c] caps (by rfl) rfl rfl (by rfl) (by simp only [List.map_toArray, List.map_cons, List.map_nil]; rfl) ?_
 refine (HCL.out _ HB4.out).mono ?_
 rintro e w5 ⟨v5, rfl, hR5, hb5⟩
 refine ⟨_, rfl, ?_⟩
 have HR5 := Aside0.mk hR5
 have KX5 := Aside0.mk (blk_below KX4.out hb5)
 have KF5 := Aside0.mk (blk_below KF4.out hb5)
 have KR5 := Aside0.mk (blk_below KR4.out hb5)
 have HB5 := Aside0.mk (below_step HB4.out hb5)
 clear hR5 hb5
 obtain ⟨A5, c5, e5⟩ := Kd.R_slice HR5.out
 subst e5
 refine hK.out _ _ ⟨(blk_cell KX5.out 0).trans rfl, (blk_cell KF5.out 0).trans rfl⟩ (fun hHeld => ?_)
 clear hK K
 refine norm_ (a' := ?_) ?_ ?_
 rotate_left
 ·show Act.put _ (some 9) _ = _
  simp only [Act.put, sA, sZ, sS, i64_w, i32_w]
  rfl
 refine one_ (i := 5) (N := some 10) (bv 7 63) rfl rfl (one_of HT_.out (by kernel_rfl)) (by decide) (fun K hK => ?_)
 refine goes_ Try.func88 (by kernel_rfl) rfl #[.int .i64 p, .slice A5 (o l).length c5, .int .i64 1] (by rfl) rfl rfl (by simp only [List.map_toArray, List.map_cons, List.map_nil]; rfl) ?_
 with_reducible refine (impl_single.calls p _ _ (o l) 1 p (oneT p (o l)) _ (Kd.R_reads' HR5.out).2.2 (Kd.R_reads' HR5.out).2.1 HF.out).mono ?_
 rintro e w6 ⟨v6, rfl, hS6, hb6⟩
 refine ⟨_, rfl, ?_⟩
 have HS6 := Aside0.mk (Kd.S_lower hS6 HB5.out.size)
 have KX6 := Aside0.mk (blk_below KX5.out hb6)
 have KF6 := Aside0.mk (blk_below KF5.out hb6)
 have KR6 := Aside0.mk (blk_below KR5.out hb6)
 have HB6 := Aside0.mk (below_step HB5.out hb6)
 clear hS6 hb6
 obtain ⟨A6, c6, e6⟩ := Kd.S_slice HS6.out
 subst e6
 refine hK.out _ _ ⟨(blk_cell KX6.out 0).trans rfl, (blk_cell KF6.out 0).trans rfl⟩ (fun hHeld => ?_)
 clear hK K
 refine norm_ (a' := ?_) ?_ ?_
 rotate_left
 ·show Act.put _ (some 10) _ = _
  simp only [Act.put, sA, sZ, sS, i64_w, i32_w]
  rfl
 refine last_ (i := 6) (N := none) (bv 7 127) rfl rfl (one_of HT_.out (by kernel_rfl)) (by decide) (fun K hK => ?_)
 have hs0 : w6.cell? ⟨w.heap.size, 0, none⟩ = some (.int .i64 0) := (blk_cell KR6.out 0).trans rfl
 have hs1 : w6.cell? ⟨w.heap.size, 1, none⟩ = some (.slice none 0 0) := (blk_cell KR6.out 1).trans rfl
 have hf0 := blk_frozen KR6.out 0
 have hf1 := blk_frozen KR6.out 1
 refine skip_ (w1 := ?_) (by rfl) rfl ?_ ?_
 rotate_left
 ·go_simp
  rfl
 refine hK.out _ _ ?_
 clear hK K
 refine done_ (done_of HT_.out (by kernel_rfl)) ?_
 try go_wp2
 refine bodyPost_ret (results_cell_row rfl _ _ w.heap.size 49 #[.int .i64 p, .slice A6 (oneT p (o l)).length c6] (0, 0) _ rfl (by refine blk_put (cs := #[.int .i64 p, .slice none 0 0]) ?_ 1 _ rfl; refine blk_put (cs := #[.int .i64 0, .slice none 0 0]) ?_ 0 _ rfl; exact KR6.out) Try.underlying49 rfl (by kernel_rfl)) rfl ?_
 exact ⟨_, rfl, Kd.S_set (Kd.S_set HS6.out KR6.out (by decide) 0 _) (blk_put KR6.out 0 _ rfl) (by decide) 1 _, below_set (below_set HB6.out (Nat.le_refl _)) (Nat.le_refl _)⟩
set_option maxHeartbeats 4000000 in
set_option maxRecDepth 100000 in
theorem impl_renamed.calls (n : Nat) (fn : Func) (hn : Try.prog.funcs[n]? = some fn) (hnm : (fn.name == "runtime.NumGoroutine") = false) (hnb : fn.body.isSome = true) (caps : Array Value) (o : List Int → List Int) (p : Int) (A : Option Addr) (c : Nat) (xs : List S89) (w : World)
  (hr : Kd.C k89 w A xs.length xs) (hc : xs.length ≤ c) (hp : 0 < p ∧ p ≤ 1000) (hl : xs.length ≤ 1000) (ho : ∀ x ∈ xs, okW (o x.f0) ∧ (-1000000 ≤ x.f1 ∧ x.f1 ≤ 1000000))
  (hcl : ∀ (x : S89) (A' : Option Addr) (c' : Nat) (w' : World), x ∈ xs → Below w.heap.size w w' → Kd.C (Kd.int .i64) w' A' x.f0.length x.f0 → x.f0.length ≤ c' → Calls Try.prog n (#[.slice A' x.f0.length c'] ++ caps) w' fun e w'' => ∃ v, e = .returned v ∧ Kd.R (Kd.int .i64) 2 w'' w'.heap.size (fun _ => True) v (o x.f0) ∧ Below w'.heap.size w' w'') :
  Calls Try.prog 94 #[.agg #[.int .i64 p, .slice A xs.length c], .func (.func n) #[] caps] w fun e w' => ∃ v, e = .returned (.agg #[.int .i64 p, v]) ∧ Kd.S k89 89 w' w.heap.size (fun _ => True) v (nzT (chgZ p (fun l => oneT p (o l)) [] xs)) ∧ Below w.heap.size w w' := by
 have hmf : ∀ (fn : Fn) (first cap : Array Value) (w : World), (Instr.makeFunc fn first cap).run Try.prog w = .ok (.func fn first cap) w := fun _ _ _ _ => rfl
 have hu49 := Try.underlying49
 have HR := Aside0.mk hr
 have HC := Aside0.mk hc
 have HP := Aside0.mk hp
 have HL := Aside0.mk hl
 have HO := Aside0.mk ho
 have HCL := Aside0.mk hcl
 have k2 := blk_alloc (blk_alloc (blk_new w (.cells #[.int .i64 p, .slice A xs.length c] 49)) (.cells #[.func (.func n) #[] caps] 24)) (.cells #[.int .i64 0, .slice none 0 0] 49)
 have k3 := blk_alloc (blk_new (w.alloc (.cells #[.int .i64 p, .slice A xs.length c] 49)) (.cells #[.func (.func n) #[] caps] 24)) (.cells #[.int .i64 0, .slice none 0 0] 49)
 have k4 := blk_new ((w.alloc (.cells #[.int .i64 p, .slice A xs.length c] 49)).alloc (.cells #[.func (.func n) #[] caps] 24)) (.cells #[.int .i64 0, .slice none 0 0] 49)
 have s3 : (w.alloc (.cells #[.int .i64 p, .slice A xs.length c] 49)).heap.size = w.heap.size + 1 := by simp
 have s4 : ((w.alloc (.cells #[.int .i64 p, .slice A xs.length c] 49)).alloc (.cells #[.func (.func n) #[] caps] 24)).heap.size = w.heap.size + 1 + 1 := by simp
 rw [s3] at k3
 rw [s4] at k4
 have hq0 := (blk_cell k2 0)
 have hq1 := (blk_cell k2 1)
 have KB0 := Aside0.mk k2
 have KF0 := Aside0.mk k3
 have KR0 := Aside0.mk k4
 have HB0 := Aside0.mk (below_alloc (below_alloc (below_alloc (Below.refl w.heap.size w) (.cells #[.int .i64 p, .slice A xs.length c] 49)) (.cells #[.func (.func n) #[] caps] 24)) (.cells #[.int .i64 0, .slice none 0 0] 49))
 clear hr hc hp hl ho hcl k2 k3 k4 s3 s4 hq0 hq1
 go_enter Try.func94, Try.ntmps94
 go_wp2_with fail
 generalize ((w.alloc (.cells #[.int .i64 p, .slice A xs.length c] 49)).alloc (.cells #[.func (.func n) #[] caps] 24)).alloc (.cells #[.int .i64 0, .slice none 0 0] 49) = w1 at KB0 KF0 KR0 HB0 ⊢
 have HR1 := Aside0.mk (Kd.C_below HR.out HB0.out)
 refine (impl_changed.calls 130 Try.f130 Try.func130 (by kernel_rfl) rfl #[.pointer (some ⟨w.heap.size, 0, none⟩), .pointer (some ⟨w.heap.size + 1, 0, none⟩)] (fun l => oneT p (o l)) p p A c xs w1 HR1.out HC.out HP.out HL.out (fun x hx => ⟨fun y hy => by
   obtain ⟨e1, e2⟩ := oneT_mem HP.out.1 hy
   rw [e1, e2, Int.one_mul]
   exact HO.out x hx, Nat.le_trans (oneT_length _ _) (by decide)⟩) ?_).mono ?_
 ·intro x A' c' w' hx hb hC hcc
  exact impl_renamed_1.calls n fn hn hnm hnb caps o w.heap.size (w.heap.size + 1) p _ A' c' x.f0 w' (blk_below KB0.out hb) (blk_below KF0.out hb) HP.out (HO.out x hx).1 (fun w'' hb2 => HCL.out x A' c' w'' hx (below_step (below_step HB0.out hb) hb2) (Kd.C_below hC hb2) hcc)
 rintro e w5 ⟨v5, rfl, hS5, hb5⟩
 have HS5 := Aside0.mk (Kd.S_lower hS5 HB0.out.size)
 have HB5 := Aside0.mk (below_step HB0.out hb5)
 have KR5 := Aside0.mk (blk_below KR0.out hb5)
 clear hS5 hb5
 obtain ⟨B4, e4⟩ : ∃ x, x = w.heap.size + 1 + 1 := ⟨_, rfl⟩
 have g4 : w.heap.size ≤ B4 := by omega
 rw [← e4] at KR5
 try rw [show w.heap.size + 2 = B4 by omega]
 try rw [← e4]
 clear e4
 have hq0 : w5.cell? ⟨B4, 0, none⟩ = some (.int .i64 0) := (blk_cell KR5.out 0).trans rfl
 have hq1 : w5.cell? ⟨B4, 1, none⟩ = some (.slice none 0 0) := (blk_cell KR5.out 1).trans rfl
 have hf0 := blk_frozen KR5.out 0
 have hf1 := blk_frozen KR5.out 1
 obtain ⟨yy, hyy⟩ : ∃ y_ : List S89, y_ = nzT (chgZ p (fun l => oneT p (o l)) [] xs) := ⟨_, rfl⟩
 have NY := Aside0.mk hyy
 rw [← hyy] at HS5
 clear hyy
 obtain ⟨Au, cu, eu⟩ := Kd.S_slice HS5.out
 subst eu
 go_wp2
 refine bodyPost_ret (results_cell_row rfl _ _ B4 49 #[.int .i64 p, .slice Au yy.length cu] (0, 0) _ rfl (by refine blk_put (cs := #[.int .i64 p, .slice none 0 0]) ?_ 1 _ rfl; refine blk_put (cs := #[.int .i64 0, .slice none 0 0]) ?_ 0 _ rfl; exact KR5.out) Try.underlying49 rfl (by kernel_rfl)) rfl ?_
 refine ⟨_, rfl, ?_, below_set (below_set HB5.out g4) g4⟩
 rw [← NY.out]
 exact Kd.S_set (Kd.S_set HS5.out KR5.out (by decide) 0 _) (blk_put KR5.out 0 _ rfl) (by decide) 1 _
end Go.Proofs.Ytpfhbdpmafcnfaa.G
