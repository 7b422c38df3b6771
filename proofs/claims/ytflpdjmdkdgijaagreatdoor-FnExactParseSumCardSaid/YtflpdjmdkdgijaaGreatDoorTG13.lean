-- Written by the session's program mk.py (which runs the kit's print.py over functions and over contracts given by hand).
import Derived.Test.YtflpdjmdkdgijaaGreatDoorTG0
import Derived.Test.YtflpdjmdkdgijaaGreatDoorTShelfJ
namespace Go.Proofs.YtflpdjmdkdgijaaGreatDoor.G
open Go.RowKit Go.Maps Go.Proofs.YtflpdjmdkdgijaaGreatDoorW.PrintWords Go.Proofs.YtflpdjmdkdgijaaGreatDoorW.PrintLast Go.Proofs.YtflpdjmdkdgijaaGreatDoorW.PrintMore
attribute [local go_sem] max2_int min2_int max_two min_two max_three min_three max_four min_four   -- for this text's walks alone
set_option linter.unusedVariables false
set_option linter.unusedSimpArgs false

/-! ### strings_Cut: function 13, by hand -/
/-- The library's variables that the road reads: internal/bytealg.MaxLen, strconv.ErrSyntax, strconv.ErrRange. -/
structure Gl (w : World) : Prop where
  mx : ∃ m, w.cell? ⟨0, 0, none⟩ = some (.int .i64 m)
  es : ∃ ev, w.cell? ⟨1, 0, none⟩ = some ev ∧ (ev = .nilIface ∨ ∃ te pe, ev = .iface te pe)
  er : ∃ ev, w.cell? ⟨2, 0, none⟩ = some ev ∧ (ev = .nilIface ∨ ∃ te pe, ev = .iface te pe)
theorem Gl.below {w w' : World} (h : Gl w) (hb : Below w.heap.size w w') : Gl w' := by
  obtain ⟨⟨m, h1⟩, ⟨e1, h2, h3⟩, ⟨e2, h4, h5⟩⟩ := h
  exact ⟨⟨m, (hb.cell (World.block_lt_of_cell? _ _ h1)).trans h1⟩, ⟨e1, (hb.cell (World.block_lt_of_cell? _ _ h2)).trans h2, h3⟩, ⟨e2, (hb.cell (World.block_lt_of_cell? _ _ h4)).trans h4, h5⟩⟩
/-- What strconv.ParseInt answers (the error aside). -/
def parseI (s : ByteArray) : Int := match Lib.parseIntB 64 s.data.toList with
  | .ok v => v
  | .range => Lib.intSat 64 s.data.toList
  | _ => 0
theorem strconv_ParseInt.calls (s : ByteArray) (w : World) (hG : Gl w) (hs : s.size ≤ 281474976710656) :
    Calls Tryz.prog 14 #[.string s, .int .i64 10, .int .i64 64] w fun e w' => ∃ ev : Value, e = .returned (.tuple #[.int .i64 (parseI s), ev]) ∧ Below w.heap.size w w' := by
  obtain ⟨_, ⟨e1, h2, h3⟩, ⟨e2, h4, h5⟩⟩ := hG
  cases hp : Lib.parseIntB 64 s.data.toList with
  | ok v =>
    refine (Tryz.strconv_ParseInt_10_at64_ok s (by omega) v hp w).mono ?_
    rintro e w' ⟨rfl, hw⟩
    refine ⟨_, by unfold parseI; rw [hp], ?_⟩
    rcases hw with rfl | ⟨t, rfl⟩
    · exact Below.refl _ _
    · exact Lib.bytesWorld_below w 5 t
  | range =>
    refine (Tryz.strconv_ParseInt_10_at64_range s hs hp e2 w h4 h5).mono ?_
    rintro e w' ⟨N, rfl, _, _, hb⟩
    exact ⟨_, by unfold parseI; rw [hp], hb⟩
  | _ =>
    refine (Tryz.strconv_ParseInt_10_at64_bad s hs (fun v e_ => by rw [hp] at e_; cases e_) (fun e_ => by rw [hp] at e_; cases e_) e1 w h2 h3).mono ?_
    rintro e w' ⟨N, rfl, _, _, hb⟩
    exact ⟨_, by unfold parseI; rw [hp], hb⟩
def strings_Cut.f (a0 a1 : ByteArray) : Option (ByteArray × ByteArray × Bool) := if a0.size < 4294967281 then some (⟨(Lib.cut a0.data.toList a1.data.toList).1.toArray⟩, ⟨(Lib.cut a0.data.toList a1.data.toList).2.1.toArray⟩, (Lib.cut a0.data.toList a1.data.toList).2.2) else none
theorem strings_Cut.calls (a0 a1 : ByteArray) (r1 r2 : ByteArray) (r3 : Bool) (w : World) (hG : Gl w) (h : strings_Cut.f a0 a1 = some (r1, r2, r3)) :
    Calls Tryz.prog 13 #[.string a0, .string a1] w fun e w' => e = .returned (.tuple #[.string r1, .string r2, .bool r3]) ∧ Below w.heap.size w w' := by
  unfold strings_Cut.f at h
  obtain ⟨m, h1⟩ := hG.mx
  by_cases hc : a0.size < 4294967281
  · rw [if_pos hc] at h
    simp only [Option.some.injEq, Prod.mk.injEq] at h
    obtain ⟨rfl, rfl, rfl⟩ := h
    refine (Tryz.strings_Cut a0 a1 m w hc h1).mono ?_
    rintro e w' ⟨rfl, n, rfl⟩
    exact ⟨rfl, pw_below_drewN (Below.refl _ _) n⟩
  · rw [if_neg hc] at h
    cases h
theorem strings_Cut.small {a0 a1 r1 r2 : ByteArray} {r3 : Bool} (h : strings_Cut.f a0 a1 = some (r1, r2, r3)) : r1.size ≤ 281474976710656 := by
  unfold strings_Cut.f at h
  by_cases hc : a0.size < 4294967281
  · rw [if_pos hc] at h
    simp only [Option.some.injEq, Prod.mk.injEq] at h
    obtain ⟨h1, _⟩ := h
    subst h1
    show (List.toArray _).size ≤ _
    rw [List.size_toArray]
    have h2 : (Lib.cut a0.data.toList a1.data.toList).1.length ≤ a0.data.toList.length := by
      unfold Lib.cut
      split
      · rw [List.length_take]; omega
      · exact Nat.le_refl _
    have e2 : a0.data.toList.length = a0.size := Array.length_toList
    omega
  · rw [if_neg hc] at h
    cases h

end Go.Proofs.YtflpdjmdkdgijaaGreatDoor.G
