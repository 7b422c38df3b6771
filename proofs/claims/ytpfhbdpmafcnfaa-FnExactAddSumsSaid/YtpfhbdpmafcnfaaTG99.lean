-- Written by the session's program mk.py (which runs the kit's print.py over functions and over contracts given by hand).
import Derived.Test.YtpfhbdpmafcnfaaTG0
import Derived.Test.YtpfhbdpmafcnfaaTGgW
namespace Go.Proofs.Ytpfhbdpmafcnfaa.G
open Go.RowKit Go.Maps Go.Proofs.YtpfhbdpmafcnfaaW.PrintWords Go.Proofs.YtpfhbdpmafcnfaaW.PrintLast Go.Proofs.YtpfhbdpmafcnfaaW.PrintMore
attribute [local go_sem] max2_int min2_int max_two min_two max_three min_three max_four min_four   -- for this text's walks alone
set_option linter.unusedVariables false
set_option linter.unusedSimpArgs false
set_option maxHeartbeats 4000000 in
set_option maxRecDepth 100000 in
theorem indexFunc_two.calls (n : Nat) (fn : Func) (hn : Try.prog.funcs[n]? = some fn) (hnm : (fn.name == "runtime.NumGoroutine") = false) (hnb : fn.body.isSome = true) (caps : Array Value) (bl : Nat) (p q : Int) (A A' : Option Addr) (c c' : Nat) (xs ys : List S89) (b0 b1 : Bool) (w : World)
  (hb : w.heap[bl]? = some (.cells #[.int .i64 p, .slice A xs.length c, .int .i64 q, .slice A' ys.length c'] 49 (0, 0)))
  (hp0 : ∀ w' : World, Below w.heap.size w w' → Calls Try.prog n (#[.agg #[.int .i64 p, .slice A xs.length c]] ++ caps) w' fun e w'' => e = .returned (.bool b0) ∧ Below w'.heap.size w' w'')
  (hp1 : ∀ w' : World, Below w.heap.size w w' → Calls Try.prog n (#[.agg #[.int .i64 q, .slice A' ys.length c']] ++ caps) w' fun e w'' => e = .returned (.bool b1) ∧ Below w'.heap.size w' w'') :
  Calls Try.prog 148 #[.slice (some ⟨bl, 0, none⟩) 2 2, .func (.func n) #[] caps] w fun e w' => e = .returned (.int .i64 (if b0 = true then 0 else if b1 = true then 1 else -1)) ∧ Below w.heap.size w w' := by
 have he : ∀ (x : Value) (W : World), Sem.run Try.prog (callFunc n (#[x] ++ caps)) W = .ok (.enter n (#[x] ++ caps)) W := fun x W => enters_ hn hnm hnb _ W
 have hu49 := Try.underlying49
 have HB := Aside0.mk hb
 have HP0 := Aside0.mk hp0
 have HP1 := Aside0.mk hp1
 clear hb hp0 hp1
 generalize hR : (if b0 = true then (0 : Int) else if b1 = true then 1 else -1) = R
 have HR := Aside0.mk hR
 clear hR
 go_enter Try.func148, Try.ntmps148
 go_wp2
 go_loopw [8] (fun i wr => ∃ k : Nat, k ≤ 2 ∧ i = .int .i64 k ∧ Aside0 (Below w.heap.size w wr) ∧ Aside0 (1 ≤ k → b0 = false) ∧ Aside0 (2 ≤ k → b1 = false)) (fun i _ => 2 - (intOf i).toNat)
 case atStart => exact ⟨0, by omega, rfl, ⟨Below.refl _ _⟩, ⟨fun h => by omega⟩, ⟨fun h => by omega⟩⟩
 case round =>
  obtain ⟨k, hk, rfl, HBW, H0, H1⟩ := hrel
  have K := Aside0.mk ((HBW.out.block bl (blk_lt HB.out)).trans HB.out)
  obtain rfl | rfl | rfl : k = 0 ∨ k = 1 ∨ k = 2 := by omega
  ·have h0 : wr.cell? ⟨bl, 0, none⟩ = some (.int .i64 p) := (blk_cell K.out 0).trans rfl
   have h1 : wr.cell? ⟨bl, 1, none⟩ = some (.slice A xs.length c) := (blk_cell K.out 1).trans rfl
   go_wp2_with fail
   refine (HP0.out wr HBW.out).mono ?_
   rintro e w2 ⟨rfl, hb2⟩
   have HB2 := Aside0.mk (below_step HBW.out hb2)
   clear hb2 h0 h1
   cases b0
   ·go_wp2
    go_roundw
    case rel => exact ⟨1, by omega, by go_num, HB2, ⟨fun _ => by first | rfl | trivial⟩, ⟨fun h => by omega⟩⟩
    case measure => simp [intOf]; try omega
   have e0 : (0 : Int) = R := by have := HR.out; simpa using this
   subst e0
   go_wp2
   go_ret
   exact ⟨rfl, HB2.out⟩
  ·have h0 : wr.cell? ⟨bl, 2, none⟩ = some (.int .i64 q) := (blk_cell K.out 2).trans rfl
   have h1 : wr.cell? ⟨bl, 3, none⟩ = some (.slice A' ys.length c') := (blk_cell K.out 3).trans rfl
   go_wp2_with fail
   refine (HP1.out wr HBW.out).mono ?_
   rintro e w2 ⟨rfl, hb2⟩
   have HB2 := Aside0.mk (below_step HBW.out hb2)
   clear hb2 h0 h1
   have z0 := H0.out (by omega)
   subst z0
   cases b1
   ·go_wp2
    go_roundw
    case rel => exact ⟨2, by omega, by go_num, HB2, ⟨fun _ => by first | rfl | trivial⟩, ⟨fun _ => by first | rfl | trivial⟩⟩
    case measure => simp [intOf]; try omega
   have e0 : (1 : Int) = R := by have := HR.out; simpa using this
   subst e0
   go_wp2
   go_ret
   exact ⟨rfl, HB2.out⟩
  have z0 := H0.out (by omega)
  have z1 := H1.out (by omega)
  subst z0 z1
  have e0 : (-1 : Int) = R := by have := HR.out; simpa using this
  subst e0
  go_wp2
  go_ret
  exact ⟨rfl, HBW.out⟩
set_option maxHeartbeats 4000000 in
set_option maxRecDepth 100000 in
theorem containsFunc_two.calls (n : Nat) (fn : Func) (hn : Try.prog.funcs[n]? = some fn) (hnm : (fn.name == "runtime.NumGoroutine") = false) (hnb : fn.body.isSome = true) (caps : Array Value) (bl : Nat) (p q : Int) (A A' : Option Addr) (c c' : Nat) (xs ys : List S89) (b0 b1 : Bool) (w : World)
  (hb : w.heap[bl]? = some (.cells #[.int .i64 p, .slice A xs.length c, .int .i64 q, .slice A' ys.length c'] 49 (0, 0)))
  (hp0 : ∀ w' : World, Below w.heap.size w w' → Calls Try.prog n (#[.agg #[.int .i64 p, .slice A xs.length c]] ++ caps) w' fun e w'' => e = .returned (.bool b0) ∧ Below w'.heap.size w' w'')
  (hp1 : ∀ w' : World, Below w.heap.size w w' → Calls Try.prog n (#[.agg #[.int .i64 q, .slice A' ys.length c']] ++ caps) w' fun e w'' => e = .returned (.bool b1) ∧ Below w'.heap.size w' w'') :
  Calls Try.prog 132 #[.slice (some ⟨bl, 0, none⟩) 2 2, .func (.func n) #[] caps] w fun e w' => e = .returned (.bool (b0 || b1)) ∧ Below w.heap.size w w' := by
 have H := Aside0.mk (indexFunc_two.calls n fn hn hnm hnb caps bl p q A A' c c' xs ys b0 b1 w hb hp0 hp1)
 clear hb hp0 hp1
 go_enter Try.func132, Try.ntmps132
 go_wp2_with fail
 refine H.out.mono ?_
 rintro e w2 ⟨rfl, hb2⟩
 have HB2 := Aside0.mk hb2
 clear hb2
 cases b0 <;> cases b1 <;> (go_wp2; go_ret; exact ⟨rfl, HB2.out⟩)
set_option maxHeartbeats 4000000 in
set_option maxRecDepth 100000 in
theorem impl_wrong_1.calls (k : Nat) (p : Int) (A : Option Addr) (c : Nat) (xs : List S89) (s : Bool) (w : World) (hr : Kd.C k89 w A xs.length xs) (hc : xs.length ≤ c) (hs : impl_IsSum.f k p xs = some s) :
  Calls Try.prog 133 #[.agg #[.int .i64 p, .slice A xs.length c]] w fun e w' => e = .returned (.bool (!s)) ∧ Below w.heap.size w w' := by
 have hu49 := Try.underlying49
 have HR := Aside0.mk (Kd.C_alloc hr (.cells #[.int .i64 p, .slice A xs.length c] 49))
 have HC := Aside0.mk hc
 have HS := Aside0.mk hs
 have HB := Aside0.mk (below_alloc (Below.refl w.heap.size w) (.cells #[.int .i64 p, .slice A xs.length c] 49))
 clear hr hc hs
 go_enter Try.func133, Try.ntmps133
 go_wp2_with fail
 generalize w.alloc (.cells #[.int .i64 p, .slice A xs.length c] 49) = w1 at HR HB ⊢
 refine (impl_IsSum.calls k p _ _ xs s w1 HR.out HC.out HS.out).mono ?_
 rintro e w2 ⟨rfl, hb2⟩
 have HB2 := Aside0.mk (below_step HB.out hb2)
 clear hb2
 go_wp2
 go_ret
 exact ⟨rfl, HB2.out⟩
set_option maxHeartbeats 4000000 in
set_option maxRecDepth 100000 in
theorem impl_wrong_2.calls (bp bl : Nat) (x p : Int) (u : Value) (hu : ∃ A n c, u = .slice A n c) (cs : Array Value) (hcs : cs[0]? = some (.int .i64 p)) (w : World) (hbp : w.heap[bp]? = some (.cells #[.slice (some ⟨bl, 0, none⟩) 2 2] 123 (0, 0))) (hbl : w.heap[bl]? = some (.cells cs 49 (0, 0))) :
  Calls Try.prog 134 (#[.agg #[.int .i64 x, u]] ++ #[.pointer (some ⟨bp, 0, none⟩)]) w fun e w' => e = .returned (.bool (x != p)) ∧ Below w.heap.size w w' := by
 have hu49 := Try.underlying49
 obtain ⟨A, n, c, rfl⟩ := hu
 have k1 := blk_new w (.cells #[.int .i64 x, .slice A n c] 49)
 have k2 := blk_alloc hbp (.cells #[.int .i64 x, .slice A n c] 49)
 have k3 := blk_alloc hbl (.cells #[.int .i64 x, .slice A n c] 49)
 have HB := Aside0.mk (below_alloc (Below.refl w.heap.size w) (.cells #[.int .i64 x, .slice A n c] 49))
 have HCS := Aside0.mk hcs
 have K10 := Aside0.mk k1
 have K20 := Aside0.mk k2
 have K30 := Aside0.mk k3
 clear hbp hbl k1 k2 k3 hcs
 show Calls Try.prog 134 #[.agg #[.int .i64 x, .slice A n c], .pointer (some ⟨bp, 0, none⟩)] w _
 go_enter Try.func134, Try.ntmps134
 go_wp2_with fail
 generalize w.alloc (.cells #[.int .i64 x, .slice A n c] 49) = w1 at HB K10 K20 K30 ⊢
 have K1 := Aside0.mk (blk_drew K10.out)
 have K2 := Aside0.mk (blk_drew K20.out)
 have K3 := Aside0.mk (blk_drew K30.out)
 have HB1 := Aside0.mk (below_drew1 HB.out)
 have hp3 : w1.drew.cell? ⟨bl, 0, none⟩ = some (.int .i64 p) := (blk_cell K3.out 0).trans HCS.out
 have HP3 := Aside0.mk hp3
 clear hp3
 refine start_ (n := 8) (S := fun w' => w'.cell? ⟨w.heap.size, 0, none⟩ = some (.int .i64 x) ∧ w'.cell? ⟨bp, 0, none⟩ = some (.slice (some ⟨bl, 0, none⟩) 2 2) ∧ w'.cell? ⟨bl, 0, none⟩ = some (.int .i64 p)) (ds := []) #[false, false, false, false, false, false, false, false] (by kernel_rfl) rfl rfl ⟨(blk_cell K1.out 0).trans rfl, (blk_cell K2.out 0).trans rfl, HP3.out⟩ (fun hHeld => ?_)
 refine pure_ (i := 0) (N := some 4) (v := ?_) (a' := ?_) (bv 8 1) rfl rfl (by kernel_rfl) (fun _ _ _ h => h) (Or.inl ⟨by rfl, ?_⟩) ?_ ?_
 rotate_left
 ·intro w'
  go_simp
  with_reducible rfl
 rotate_left
 ·simp only [Act.put, sA, sZ, sS, i64_w, i32_w]
  rfl
 refine take_ (i := 1) (N := some 5) (v := ?_) (a' := ?_) (bv 8 3) rfl rfl (by kernel_rfl) (fun _ _ _ h => h) (Or.inl ⟨by rfl, ?_⟩) hHeld ?_ ?_
 rotate_left
 ·rintro w' ⟨s0, s1, s2⟩
  go_simp
  with_reducible rfl
 rotate_left
 ·simp only [Act.put, sA, sZ, sS, i64_w, i32_w]
  rfl
 refine take_ (i := 2) (N := some 6) (v := ?_) (a' := ?_) (bv 8 7) rfl rfl (by kernel_rfl) (fun _ _ _ h => h) (Or.inl ⟨by rfl, ?_⟩) hHeld ?_ ?_
 rotate_left
 ·rintro w' ⟨s0, s1, s2⟩
  go_simp
  with_reducible rfl
 rotate_left
 ·simp only [Act.put, sA, sZ, sS, i64_w, i32_w]
  rfl
 refine pure_ (i := 3) (N := some 7) (v := ?_) (a' := ?_) (bv 8 15) rfl rfl (by kernel_rfl) (fun _ _ _ h => h) (Or.inl ⟨by rfl, ?_⟩) ?_ ?_
 rotate_left
 ·intro w'
  go_simp
  with_reducible rfl
 rotate_left
 ·simp only [Act.put, sA, sZ, sS, i64_w, i32_w]
  rfl
 refine pure_ (i := 4) (N := some 8) (v := ?_) (a' := ?_) (bv 8 31) rfl rfl (by kernel_rfl) (fun _ _ _ h => h) (Or.inl ⟨by rfl, ?_⟩) ?_ ?_
 rotate_left
 ·intro w'
  go_simp
  with_reducible rfl
 rotate_left
 ·simp only [Act.put, sA, sZ, sS, i64_w, i32_w]
  rfl
 refine take_ (i := 5) (N := some 9) (v := ?_) (a' := ?_) (bv 8 63) rfl rfl (by kernel_rfl) (fun _ _ _ h => h) (Or.inl ⟨by rfl, ?_⟩) hHeld ?_ ?_
 rotate_left
 ·rintro w' ⟨s0, s1, s2⟩
  go_simp
  with_reducible rfl
 rotate_left
 ·simp only [Act.put, sA, sZ, sS, i64_w, i32_w]
  rfl
 refine pure_ (i := 6) (N := some 10) (v := ?_) (a' := ?_) (bv 8 127) rfl rfl (by kernel_rfl) (fun _ _ _ h => h) (Or.inl ⟨by rfl, ?_⟩) ?_ ?_
 rotate_left
 ·intro w'
  go_simp
  with_reducible rfl
 rotate_left
 ·simp only [Act.put, sA, sZ, sS, i64_w, i32_w]
  rfl
 refine pure_ (i := 7) (N := some 3) (v := ?_) (a' := ?_) (bv 8 255) rfl rfl (by kernel_rfl) (fun _ _ _ h => h) (Or.inl ⟨by rfl, ?_⟩) ?_ ?_
 rotate_left
 ·intro w'
  go_simp
  with_reducible rfl
 rotate_left
 ·simp only [Act.put, sA, sZ, sS, i64_w, i32_w]
  rfl
 refine done_ (by kernel_rfl) ?_
 go_wp2
 go_ret
 exact ⟨by first | rfl | (simp; done), HB1.out⟩
def wrongR (s0 s1 : Bool) (p q : Int) : Int := if (s0 && s1) = true then (if q = p then 0 else 2) else 1
set_option maxHeartbeats 4000000 in
set_option maxRecDepth 100000 in
theorem impl_wrong.calls (k : Nat) (bl : Nat) (p q : Int) (A A' : Option Addr) (c c' : Nat) (xs ys : List S89) (s0 s1 : Bool) (w : World) (hb : w.heap[bl]? = some (.cells #[.int .i64 p, .slice A xs.length c, .int .i64 q, .slice A' ys.length c'] 49 (0, 0)))
  (hr0 : Kd.C k89 w A xs.length xs) (hc0 : xs.length ≤ c) (hr1 : Kd.C k89 w A' ys.length ys) (hc1 : ys.length ≤ c') (hs0 : impl_IsSum.f k p xs = some s0) (hs1 : impl_IsSum.f k q ys = some s1) :
  Calls Try.prog 99 #[.slice (some ⟨bl, 0, none⟩) 2 2] w fun e w' => e = .returned (.int .i64 (wrongR s0 s1 p q)) ∧ Below w.heap.size w w' := by
 have hmf : ∀ (fn : Fn) (first cap : Array Value) (w : World), (Instr.makeFunc fn first cap).run Try.prog w = .ok (.func fn first cap) w := fun _ _ _ _ => rfl
 have HR0 := Aside0.mk hr0
 have HR1 := Aside0.mk hr1
 have HC0 := Aside0.mk hc0
 have HC1 := Aside0.mk hc1
 have HS0 := Aside0.mk hs0
 have HS1 := Aside0.mk hs1
 have HB := Aside0.mk (below_alloc (Below.refl w.heap.size w) (.cells #[.slice (some ⟨bl, 0, none⟩) 2 2] 123))
 have KP := Aside0.mk (blk_new w (.cells #[.slice (some ⟨bl, 0, none⟩) 2 2] 123))
 have KL := Aside0.mk (blk_alloc hb (.cells #[.slice (some ⟨bl, 0, none⟩) 2 2] 123))
 clear hr0 hr1 hc0 hc1 hs0 hs1 hb
 generalize hR : wrongR s0 s1 p q = R
 have HRR := Aside0.mk hR
 clear hR
 go_enter Try.func99, Try.ntmps99
 go_wp2_with fail
 generalize w.alloc (.cells #[.slice (some ⟨bl, 0, none⟩) 2 2] 123) = w1 at HB KP KL ⊢
 refine (containsFunc_two.calls 133 Try.f133 Try.func133 (by kernel_rfl) rfl #[] bl p q A A' c c' xs ys (!s0) (!s1) w1 KL.out (fun w' hb' => impl_wrong_1.calls k p A c xs s0 w' (Kd.C_below HR0.out (below_step HB.out hb')) HC0.out HS0.out) (fun w' hb' => impl_wrong_1.calls k q A' c' ys s1 w' (Kd.C_below HR1.out (below_step HB.out hb')) HC1.out HS1.out)).mono ?_
 rintro e w2 ⟨rfl, hb2⟩
 have HB2 := Aside0.mk (below_step HB.out hb2)
 have KP2 := Aside0.mk (blk_below KP.out hb2)
 have KL2 := Aside0.mk (blk_below KL.out hb2)
 clear hb2 KP KL HB
 by_cases hss : (s0 && s1) = true
 case neg =>
  have hn0 : (!s0 || !s1) = true := by revert hss; cases s0 <;> cases s1 <;> simp
  have e0 : (1 : Int) = R := by have := HRR.out; unfold wrongR at this; rwa [if_neg hss] at this
  subst e0
  rw [hn0]
  go_wp2
  go_ret
  exact ⟨rfl, HB2.out⟩
 have hn0 : (!s0 || !s1) = false := by revert hss; cases s0 <;> cases s1 <;> simp
 have HRR2 := Aside0.mk (show (if q = p then (0 : Int) else 2) = R by have := HRR.out; unfold wrongR at this; rwa [if_pos hss] at this)
 rw [hn0]
 have hx : w2.cell? ⟨w.heap.size, 0, none⟩ = some (.slice (some ⟨bl, 0, none⟩) 2 2) := (blk_cell KP2.out 0).trans rfl
 clear hss hn0
 go_wp2_with fail
 refine (containsFunc_two.calls 134 Try.f134 Try.func134 (by kernel_rfl) rfl #[.pointer (some ⟨w.heap.size, 0, none⟩)] bl p q A A' c c' xs ys (p != p) (q != p) w2 KL2.out (fun w' hb' => impl_wrong_2.calls w.heap.size bl p p _ ⟨_, _, _, rfl⟩ _ rfl w' (blk_below KP2.out hb') (blk_below KL2.out hb')) (fun w' hb' => impl_wrong_2.calls w.heap.size bl q p _ ⟨_, _, _, rfl⟩ _ rfl w' (blk_below KP2.out hb') (blk_below KL2.out hb'))).mono ?_
 rintro e w3 ⟨rfl, hb3⟩
 have HB3 := Aside0.mk (below_step HB2.out hb3)
 clear hb3 hx
 by_cases hqp : q = p
 case neg =>
  have e0 : (2 : Int) = R := by have := HRR2.out; rwa [if_neg hqp] at this
  have e1 : (p != p || q != p) = true := by simp [hqp]
  subst e0
  rw [e1]
  go_wp2
  go_ret
  exact ⟨rfl, HB3.out⟩
 have e0 : (0 : Int) = R := by have := HRR2.out; rwa [if_pos hqp] at this
 have e1 : (p != p || q != p) = false := by simp [hqp]
 subst e0
 rw [e1]
 go_wp2
 go_ret
 exact ⟨rfl, HB3.out⟩
end Go.Proofs.Ytpfhbdpmafcnfaa.G
