/-
  What the head of this seat's translation says: by its first three words, without a reading of all of it. No condition.
-/
import Derived.Test.YtflpdjmdkdgijaaGreatDoorRows
import Derived.KernelRfl
namespace Go.Proofs.YtflpdjmdkdgijaaGreatDoor.Order
open Go

def signs (l : List Nat) : List Char := l.map Char.ofNat
def one : List Nat := [104, 97, 114, 110, 101, 115, 115]
def two : List Nat := [52, 102, 97, 54, 50, 97, 99, 52, 51, 102, 53, 49, 54, 48, 98, 49, 100, 48, 99, 52, 100, 55, 54, 57, 97, 54, 52, 100, 53, 98, 97, 54, 51, 48, 99, 52, 52, 101, 55, 55, 50, 101, 48, 101, 49, 102, 52, 97, 48, 102, 51, 54, 51, 99, 50, 102, 54, 50, 99, 50, 99, 55, 52, 55]
def three : List Nat := [99, 117, 116]
def rest : List Nat := [97, 116, 32, 108, 111, 111, 112, 46, 101, 120, 97, 109, 112, 108, 101, 47, 103, 48, 49, 51, 48, 51, 47, 108, 97, 119, 115, 46, 70, 110, 69, 120, 97, 99, 116, 80, 97, 114, 115, 101, 83, 117, 109]
theorem order : Tryz.prog.initOrder = String.ofList (signs (one ++ 32 :: (two ++ 32 :: (three ++ 32 :: rest)))) := by kernel_rfl
theorem words_one : ∀ (a r : List Nat), (a.all fun n => (Char.ofNat n != Char.ofNat 32)) = true → wordsSigns (signs (a ++ 32 :: r)) = signs a :: wordsSigns (signs r)
  | [], r, _ => rfl
  | n :: a, r, h => by
    rw [List.all_cons, Bool.and_eq_true] at h
    have ih := words_one a r h.2
    have hn : Char.ofNat n ≠ Char.ofNat 32 := by simpa using h.1
    show wordsSigns (Char.ofNat n :: signs (a ++ 32 :: r)) = _
    rw [wordsSigns.eq_3 _ _ (fun e => hn e), ih]
    rfl
theorem words : behindMainWord (wordsSigns Tryz.prog.initOrder.toList) = signs three :: wordsSigns (signs rest) := by
  rw [order, String.toList_ofList, words_one one _ (by kernel_rfl), words_one two _ (by kernel_rfl), words_one three _ (by kernel_rfl)]
  have h : ((signs one == "harness".toList || signs one == "ownmain".toList) && isSumSigns (signs two)) = true := by kernel_rfl
  simp only [behindMainWord]
  rw [if_pos h]
theorem strip (q : List (List Char)) : stripLifts liftWords (signs three :: q) = ([], signs three :: q) := by kernel_rfl
theorem later : Tryz.prog.laysLater = false := by kernel_rfl
theorem reflect : Tryz.prog.bearsReflect = false := by kernel_rfl
theorem door : Tryz.prog.doorFits [] = true := by kernel_rfl
theorem not_gc : (signs three == "gc".toList) = false := by kernel_rfl
theorem not_spec : (signs three == "spec".toList) = false := by kernel_rfl
theorem not_carried : (signs three == "carried".toList) = false := by kernel_rfl
theorem is_cut : (signs three == "cut".toList) = true := by kernel_rfl
-- over any program: an 'unfold' at this one makes the kernel read the whole string
theorem mayEnter_of (P : Program) {c : List Char} {q : List (List Char)} (h : behindMainWord (wordsSigns P.initOrder.toList) = c :: q) (hs : stripLifts liftWords (c :: q) = ([], c :: q)) (h1 : (c == "gc".toList) = false) (h2 : (c == "spec".toList) = false) (h3 : (c == "carried".toList) = false) (h4 : (c == "cut".toList) = true)
    (hl : P.laysLater = false) (hr : P.bearsReflect = false) (hd : P.doorFits [] = true) : P.mayEnter = true := by
  unfold Program.mayEnter
  rw [h]
  have h5 : ((c :: q).head? == some "cut".toList) = true := by simpa using h4
  simp only [hs, h1, h2, h3, hl, hr, hd, h5]
  rfl
theorem headLifts_of (P : Program) {c : List Char} {q : List (List Char)} (h : behindMainWord (wordsSigns P.initOrder.toList) = c :: q) (hs : stripLifts liftWords (c :: q) = ([], c :: q)) : P.headLifts = [] := by
  unfold Program.headLifts
  rw [h, hs]
  simp
theorem liftsFinal_of (P : Program) {c : List Char} {q : List (List Char)} (h : behindMainWord (wordsSigns P.initOrder.toList) = c :: q) (h3 : (c == "carried".toList) = false) (hh : P.headLifts = []) : P.liftsFinal = false := by
  unfold Program.liftsFinal
  rw [h, hh]
  have h5 : ((c :: q).head? == some "carried".toList) = false := by simpa using h3
  simp only [h5]
  rfl
theorem make_of (P : Program) {c : List Char} {q : List (List Char)} (h : behindMainWord (wordsSigns P.initOrder.toList) = c :: q) (h1 : (c == "gc".toList) = false) (h2 : (c == "spec".toList) = false) (h4 : (c == "cut".toList) = true) : P.make = some .cut := by
  unfold Program.make
  rw [h]
  simp only [h1, h2, h4]
  rfl
theorem mayEnter : Tryz.prog.mayEnter = true := mayEnter_of _ words (strip _) not_gc not_spec not_carried is_cut later reflect door
theorem liftsFinal : Tryz.prog.liftsFinal = false := liftsFinal_of _ words not_carried (headLifts_of _ words (strip _))
theorem make : Tryz.prog.make = some .cut := make_of _ words not_gc not_spec is_cut
end Go.Proofs.YtflpdjmdkdgijaaGreatDoor.Order
