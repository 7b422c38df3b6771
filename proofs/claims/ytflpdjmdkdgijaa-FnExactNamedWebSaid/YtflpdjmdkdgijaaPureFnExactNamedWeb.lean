/-
  The facts that the walk of laws.FnExactNamedWeb is told: the program's NamedWeb answers as the reference's, for every name.
-/
import Derived.Test.YtflpdjmdkdgijaaG9
import Derived.Test.YtflpdjmdkdgijaaGlNamedWeb
namespace Go.Proofs.Ytflpdjmdkdgijaa.Pure
open Go.RowKit Go.Proofs.Ytflpdjmdkdgijaa.G
set_option linter.unusedVariables false

theorem FnExactNamedWeb : laws_FnExactNamedWeb.Pure := by
  intro t0 hz
  unfold laws_FnExactNamedWeb.Told
  have hs : spec_NamedWeb.f t0 = (spec_l06Named.f t0).bind fun b => (if b.2.2 = true then (some (b.1, b.2.1, 0)) else (some (([] : List Int), ([] : List (List Int)), 4))) := rfl
  have hi : impl_NamedWeb.f t0 = (spec_l06Named.f t0).bind fun b => (if b.2.2 = true then (some (b.1, b.2.1, 0)) else (some (([] : List Int), ([] : List (List Int)), 4))) := rfl
  by_cases c0 : t0.toList = ([99, 104, 111, 114, 100] : List UInt8)
  · have e : spec_l06Named.f t0 = some (([0, 0] : List Int), ([] : List (List Int)), true) := by unfold spec_l06Named.f; rw [if_pos c0]
    exact ⟨100, 0, 3, [0, 0], [], [1, 2], [], by rw [hs, e]; rfl, by rw [hi, e]; rfl, by kernel_rfl, by kernel_rfl, by kernel_rfl, by decide⟩
  by_cases c1 : t0.toList = ([102, 111, 114, 107] : List UInt8)
  · have e : spec_l06Named.f t0 = some (([0, 1, 2] : List Int), ([[0, 1, 2]] : List (List Int)), true) := by unfold spec_l06Named.f; rw [if_neg c0, if_pos c1]
    exact ⟨100, 0, 7, [0, 1, 2], [[0, 1, 2]], [1, 2, 3], [[4, 5, 6]], by rw [hs, e]; rfl, by rw [hi, e]; rfl, by kernel_rfl, by kernel_rfl, by kernel_rfl, by decide⟩
  by_cases c2 : t0.toList = ([114, 105, 110, 103] : List UInt8)
  · have e : spec_l06Named.f t0 = some (([0, 1] : List Int), ([[0, 2, 3], [1, 3, 2]] : List (List Int)), true) := by unfold spec_l06Named.f; rw [if_neg c0, if_neg c1, if_pos c2]
    exact ⟨100, 0, 9, [0, 1], [[0, 2, 3], [1, 3, 2]], [1, 2], [[3, 4, 5], [6, 7, 8]], by rw [hs, e]; rfl, by rw [hi, e]; rfl, by kernel_rfl, by kernel_rfl, by kernel_rfl, by decide⟩
  by_cases c3 : t0.toList = ([98, 114, 105, 100, 103, 101] : List UInt8)
  · have e : spec_l06Named.f t0 = some (([0, 1, 2, 3] : List Int), ([[0, 1, 4], [4, 2, 3]] : List (List Int)), true) := by unfold spec_l06Named.f; rw [if_neg c0, if_neg c1, if_neg c2, if_pos c3]
    exact ⟨100, 0, 11, [0, 1, 2, 3], [[0, 1, 4], [4, 2, 3]], [1, 2, 3, 4], [[5, 6, 7], [8, 9, 10]], by rw [hs, e]; rfl, by rw [hi, e]; rfl, by kernel_rfl, by kernel_rfl, by kernel_rfl, by decide⟩
  by_cases c4 : t0.toList = ([119, 104, 101, 101, 108] : List UInt8)
  · have e : spec_l06Named.f t0 = some (([0, 1, 2] : List Int), ([[0, 3, 5], [1, 4, 3], [2, 5, 4]] : List (List Int)), true) := by unfold spec_l06Named.f; rw [if_neg c0, if_neg c1, if_neg c2, if_neg c3, if_pos c4]
    exact ⟨100, 0, 13, [0, 1, 2], [[0, 3, 5], [1, 4, 3], [2, 5, 4]], [1, 2, 3], [[4, 5, 6], [7, 8, 9], [10, 11, 12]], by rw [hs, e]; rfl, by rw [hi, e]; rfl, by kernel_rfl, by kernel_rfl, by kernel_rfl, by decide⟩
  by_cases c5 : t0.toList = ([99, 111, 109, 98] : List UInt8)
  · have e : spec_l06Named.f t0 = some (([0, 1, 2, 3, 4] : List Int), ([[0, 1, 5], [5, 2, 6], [6, 3, 4]] : List (List Int)), true) := by unfold spec_l06Named.f; rw [if_neg c0, if_neg c1, if_neg c2, if_neg c3, if_neg c4, if_pos c5]
    exact ⟨100, 0, 15, [0, 1, 2, 3, 4], [[0, 1, 5], [5, 2, 6], [6, 3, 4]], [1, 2, 3, 4, 5], [[6, 7, 8], [9, 10, 11], [12, 13, 14]], by rw [hs, e]; rfl, by rw [hi, e]; rfl, by kernel_rfl, by kernel_rfl, by kernel_rfl, by decide⟩
  have e : spec_l06Named.f t0 = some (([] : List Int), ([] : List (List Int)), false) := by unfold spec_l06Named.f; rw [if_neg c0, if_neg c1, if_neg c2, if_neg c3, if_neg c4, if_neg c5]
  exact ⟨100, 4, 1, [], [], [], [], by rw [hs, e]; rfl, by rw [hi, e]; rfl, by kernel_rfl, by kernel_rfl, by kernel_rfl, by decide⟩
end Go.Proofs.Ytflpdjmdkdgijaa.Pure
