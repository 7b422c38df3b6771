-- Written by the session's program mk.py (which runs the kit's print.py over functions and over contracts given by hand).
import Derived.Test.YtaegjapbkkfpdaaG0
import Derived.Test.YtaegjapbkkfpdaaG117
import Derived.Test.YtaegjapbkkfpdaaGgI
import Derived.Test.YtaegjapbkkfpdaaGgJ
import Derived.Test.YtaegjapbkkfpdaaPlainA
import Derived.Test.YtaegjapbkkfpdaaPlainD
namespace Go.Proofs.Ytaegjapbkkfpdaa.G
open Go.RowKit Go.Maps Go.Proofs.YtaegjapbkkfpdaaW.PrintWords Go.Proofs.YtaegjapbkkfpdaaW.PrintLast Go.Proofs.YtaegjapbkkfpdaaW.PrintMore
attribute [local go_sem] max2_int min2_int max_two min_two max_three min_three max_four min_four   -- for this text's walks alone
set_option linter.unusedVariables false
set_option linter.unusedSimpArgs false

open Go.Proofs.Ytaegjapbkkfpdaa.Plain
/-! ### impl_wordOf: function 100, by hand -/
theorem wfB_keep {p : Int → Bool} {l : List Int} (h : wfB l = true) : wfB (keepL p l) = true := List.all_eq_true.2 fun x hx => List.all_eq_true.1 h x (List.mem_filter.1 hx).1
theorem keepL_le (p : Int → Bool) (l : List Int) : (keepL p l).length ≤ l.length := List.length_filter_le _ _
set_option maxHeartbeats 8000000 in
set_option maxRecDepth 100000 in
theorem impl_wordOf_1.calls (n : Nat) (fn : Func) (hn : Try.prog.funcs[n]? = some fn) (hnm : (fn.name == "runtime.NumGoroutine") = false) (hnb : fn.body.isSome = true) (caps : Array Value) (b : Nat) (x : Int) (r : Bool) (w : World) (hb : w.cell? ⟨b, 0, none⟩ = some (.func (.func n) #[] caps))
    (hp : Calls Try.prog n (#[.int .i64 x] ++ caps) w fun e w' => e = .returned (.bool r) ∧ Below w.heap.size w w') :
    Calls Try.prog 118 (#[.int .i64 x] ++ #[.pointer (some ⟨b, 0, none⟩)]) w fun e w' => e = .returned (.bool (!r)) ∧ Below w.heap.size w w' := by
  have he : ∀ (x : Int) (W : World), Sem.run Try.prog (callFunc n (#[Value.int .i64 x] ++ caps)) W = .ok (.enter n (#[Value.int .i64 x] ++ caps)) W := fun x W => enters_ hn hnm hnb _ W
  show Calls Try.prog 118 #[.int .i64 x, .pointer (some ⟨b, 0, none⟩)] w _
  go_enter Try.func118, Try.ntmps118
  go_wp2
  refine hp.mono ?_
  rintro e w1 ⟨rfl, hb1⟩
  go_wp2
  go_ret
  exact ⟨rfl, hb1⟩
set_option maxHeartbeats 8000000 in
set_option maxRecDepth 100000 in
/-- The word of the numbers of which something is so: whatever test it is that is handed in. -/
theorem impl_wordOf.calls (n : Nat) (fn : Func) (hn : Try.prog.funcs[n]? = some fn) (hnm : (fn.name == "runtime.NumGoroutine") = false) (hnb : fn.body.isSome = true) (caps : Array Value) (p : Int → Bool) (A0 : Option Addr) (c0 : Nat) (l0 : List Int) (w : World) (hr0 : Kd.C (Kd.int .i64) w A0 l0.length l0) (hc0 : l0.length ≤ c0) (hl : l0.length ≤ 1048576) (hw : wfB l0 = true)
    (hp : ∀ (x : Int) (w' : World), x ∈ l0 → Below w.heap.size w w' → Calls Try.prog n (#[.int .i64 x] ++ caps) w' fun e w'' => e = .returned (.bool (p x)) ∧ Below w'.heap.size w' w'') :
    Calls Try.prog 100 #[.slice A0 l0.length c0, .func (.func n) #[] caps] w fun e w' => ∃ v, e = .returned v ∧ Kd.R (Kd.int .i64) 2 w' w.heap.size (fun _ => True) v (normalL (l0.filter p)) ∧ Below w.heap.size w w' := by
  have hmf : ∀ (fn : Fn) (first cap : Array Value) (w : World), (Instr.makeFunc fn first cap).run Try.prog w = .ok (.func fn first cap) w := fun _ _ _ _ => rfl
  have HP := Aside0.mk hp
  have HL := Aside0.mk hl
  have HC0 := Aside0.mk hc0
  have HB := Aside0.mk (below_alloc (Below.refl w.heap.size w) (.cells #[.func (.func n) #[] caps] 68))
  have HX := Aside0.mk (show (w.alloc (.cells #[.func (.func n) #[] caps] 68)).cell? ⟨w.heap.size, 0, none⟩ = some (.func (.func n) #[] caps) by rw [World.cell?_alloc_at _ _ _ _ rfl]; rfl)
  have HR1 := Aside0.mk (Kd.C_alloc hr0 (.cells #[.func (.func n) #[] caps] 68))
  have HSZ := Aside0.mk (show w.heap.size ≤ (w.alloc (.cells #[.func (.func n) #[] caps] 68)).heap.size by simp)
  clear hp hl hc0 hr0
  have hfc : slices_Clone_int64_int64.f l0 = some l0 := by unfold slices_Clone_int64_int64.f; rw [if_pos (by have := HL.out; omega)]
  have HFC := Aside0.mk hfc
  clear hfc
  have e9 : ∀ l : List Int, (keepL (fun x => !p x) l) = l.filter p := fun l => by unfold keepL; simp
  have E9 := Aside0.mk (e9 l0)
  clear e9
  have hfn : impl_normal.f (keepL (fun x => !p x) l0) = some (normalL (keepL (fun x => !p x) l0)) := by
    unfold impl_normal.f
    rw [if_pos ⟨wfB_keep hw, by have := keepL_le (fun x => !p x) l0; have := HL.out; omega⟩]
  have HFN := Aside0.mk hfn
  clear hfn hw
  go_enter Try.func100, Try.ntmps100
  go_wp2_with fail
  generalize hw1 : w.alloc (.cells #[.func (.func n) #[] caps] 68) = w1 at HB HX HR1 HSZ ⊢
  clear hw1
  refine (slices_Clone_int64_int64.calls _ _ l0 l0 _ HR1.out HC0.out HFC.out).mono ?_
  rintro e w2 ⟨v2, rfl, ho2, hb2⟩
  have HO2 := Aside0.mk ho2
  have HB2 := Aside0.mk hb2
  clear ho2 hb2
  go_wp2_with fail
  refine (slices_DeleteFunc_int64_int64.calls 118 Try.f118 Try.func118 (by kernel_rfl) rfl #[.pointer (some ⟨w.heap.size, 0, none⟩)] (fun x => !p x) (fun _ => True) v2 l0 w1 w2 HB2.out HO2.out HL.out ?_).mono ?_
  · intro x w' hx hbw
    have hbx := below_step HB.out hbw
    exact impl_wordOf_1.calls n fn hn hnm hnb caps w.heap.size x (p x) w' ((hbw.cell (World.block_lt_of_cell? _ _ HX.out)).trans HX.out) (HP.out x w' hx hbx)
  · rintro e w3 ⟨v3, rfl, ho3, hb3⟩
    have HB3 := Aside0.mk (below_then HB.out HSZ.out hb3)
    obtain ⟨A3, c3, rfl, hc3, hC3⟩ := Kd.R_reads ho3
    have HC3 := Aside0.mk hC3
    have HCC := Aside0.mk hc3
    clear ho3 hb3 hC3 hc3
    go_wp2_with fail
    refine (impl_normal.calls _ _ _ _ _ HC3.out HCC.out HFN.out).mono ?_
    rintro e w4 ⟨v4, rfl, ho4, hb4⟩
    have HB4 := Aside0.mk (below_step HB3.out hb4)
    have HO4 := Aside0.mk (Kd.R_lower ho4 HB3.out.size)
    clear ho4 hb4
    go_wp2
    go_ret
    exact ⟨_, rfl, by rw [← E9.out]; exact HO4.out, HB4.out⟩

end Go.Proofs.Ytaegjapbkkfpdaa.G
