/-
  Plain lemmas: what 'twice' and 'normal' compute, and what a map reads as while it is filled. No program in sight.
-/
import Derived.Maps.RangeWalk
import Derived.Maps.OwnSet
import Derived.RowKit
import Derived.Test.YtflpdjmdkdgijaaGreatDoorTW
namespace Go.Proofs.YtflpdjmdkdgijaaGreatDoor.Plain
open Go.RowKit Go.Maps Go.Proofs.YtflpdjmdkdgijaaGreatDoorW.PrintWords Go.Proofs.YtflpdjmdkdgijaaGreatDoorW.PrintLast Go.Proofs.YtflpdjmdkdgijaaGreatDoorW.PrintMore
set_option linter.unusedVariables false
set_option linter.unusedSimpArgs false
/-- Is each of a list's numbers in it just twice? -/
def twiceB (l : List Int) : Bool := l.all fun x => l.count x == 2
def wfB (l : List Int) : Bool := l.all fun x => (Lit.int .i64 x).wf
theorem wfB_at {l : List Int} (h : wfB l = true) (k : Nat) : (Lit.int .i64 (rd l k)).wf = true := by
  unfold rd
  rw [List.getD_eq_getElem?_getD]
  by_cases hk : (k : Int).toNat < l.length
  · rw [List.getElem?_eq_getElem hk]
    exact List.all_eq_true.1 h _ (List.getElem_mem hk)
  · rw [List.getElem?_eq_none (by omega)]
    decide

/-- What the map of counts says of the numbers that have been met. -/
def Counts (D : DataW Unit) (l : List Int) : Prop :=
  ∀ x : Int, D.atKey (.int .i64 x) (.lit (.int .i64 0)) = .lit (.int .i64 (l.count x)) ∧ Maps.has D (.int .i64 x) = l.contains x
theorem Counts.none : Counts (.map []) [] := fun x => ⟨by simp [DataW.atKey], by simp [Maps.has]⟩
theorem take_rd {l : List Int} {k : Nat} (hk : k < l.length) : l.take (k + 1) = l.take k ++ [rd l k] := by
  rw [List.take_succ_eq_append_getElem hk]
  unfold rd
  rw [List.getD_eq_getElem?_getD, show ((k : Int).toNat) = k from by omega, List.getElem?_eq_getElem hk]
  rfl
theorem Counts.step {D : DataW Unit} {l : List Int} {x c : Int} (hD : Maps.IsMap D) (h : Counts D l) (hc : D.atKey (.int .i64 x) (.lit (.int .i64 0)) = .lit (.int .i64 c)) (hl : l.length < 9223372036854775807) :
    Counts (D.put (.int .i64 x) (.lit (.int .i64 (wrap64 (c + 1))))) (l ++ [x]) := by
  have hce : c = l.count x := by
    have := (h x).1
    rw [hc] at this
    injection this with this
    injection this with _ this
  have hle := List.count_le_length (a := x) (l := l)
  have hw : wrap64 (c + 1) = ((l ++ [x]).count x : Int) := by
    rw [List.count_append, hce]
    simp
    unfold wrap64
    omega
  rw [hw]
  intro y
  by_cases e : y = x
  · subst e
    exact ⟨by rw [atKey_put_same hD (k := .int .i64 y) trivial], by rw [has_put_same hD (k := .int .i64 y) trivial]; simp⟩
  · have hne : (Lit.int .i64 y) ≠ Lit.int .i64 x := fun e' => e (by injection e')
    refine ⟨by rw [atKey_put_other hne, (h y).1, List.count_append]; simp [List.count_singleton, Ne.symm e], ?_⟩
    rw [has_put_other hne, (h y).2]
    simp [e]

/-- The numbers that have been passed are in the list just twice. -/
def Passed (l : List Int) (left : Lit → Bool) : Prop := ∀ x : Int, x ∈ l → left (.int .i64 x) = false → l.count x = 2
theorem Passed.start {D : DataW Unit} {l : List Int} (h : Counts D l) : Passed l (Maps.has D) := fun x hx hl => by
  rw [(h x).2] at hl
  exact absurd hl (by simpa using hx)
theorem Passed.step {l : List Int} {left : Lit → Bool} {x : Int} (h : Passed l left) (hx : l.count x = 2) : Passed l (fun z => left z && !z.sameKey (.int .i64 x)) := fun y hy hl => by
  by_cases e : y = x
  · subst e
    exact hx
  · have hne : (Lit.int .i64 y) ≠ Lit.int .i64 x := fun e' => e (by injection e')
    refine h y hy ?_
    simpa [sameKey_ne hne] using hl
theorem Passed.all {l : List Int} {left : Lit → Bool} (h : Passed l left) (hl : ∀ kl, left kl = false) : twiceB l = true := by
  unfold twiceB
  rw [List.all_eq_true]
  intro x hx
  rw [h x hx (hl _)]
  rfl
theorem twiceB_not {l : List Int} {x : Int} (hx : x ∈ l) (hc : l.count x ≠ 2) : twiceB l = false := by
  unfold twiceB
  rw [List.all_eq_false]
  exact ⟨x, hx, by simpa using hc⟩

theorem snoc_ind {α : Type} {P : List α → Prop} (h0 : P []) (h1 : ∀ l x, P l → P (l ++ [x])) : ∀ l, P l := by
  intro l
  have h : ∀ l : List α, P l.reverse := by
    intro l
    induction l with
    | nil => simpa using h0
    | cons x l ih => rw [List.reverse_cons]; exact h1 _ _ ih
  simpa using h l.reverse
/-- The different numbers of a list, in the order of their first places. -/
def firsts (l : List Int) : List Int := l.foldl (fun m x => if m.contains x then m else m ++ [x]) []
theorem firsts_snoc (l : List Int) (x : Int) : firsts (l ++ [x]) = if (firsts l).contains x then firsts l else firsts l ++ [x] := by
  simp [firsts, List.foldl_append]
theorem mem_firsts (l : List Int) : ∀ x, x ∈ firsts l ↔ x ∈ l := by
  induction l using snoc_ind with
  | h0 => intro x; simp [firsts]
  | h1 l y ih =>
    intro x
    rw [firsts_snoc]
    by_cases h : (firsts l).contains y = true
    · rw [if_pos h]
      have hy := (ih y).1 (by simpa using h)
      rw [ih x]
      simp
      rintro rfl
      exact hy
    · rw [if_neg h]
      simp [ih x]
theorem firsts_length_le (l : List Int) : (firsts l).length ≤ l.length := by
  induction l using snoc_ind with
  | h0 => simp [firsts]
  | h1 l y ih =>
    rw [firsts_snoc]
    split <;> simp <;> omega
/-- The normal word of a list. -/
def normalL (l : List Int) : List Int := l.map fun x => ((firsts l).idxOf x : Int)
theorem normalL_length (l : List Int) : (normalL l).length = l.length := by simp [normalL]
theorem normalL_snoc (l : List Int) (x : Int) : normalL (l ++ [x]) = normalL l ++ [((firsts l).idxOf x : Int)] := by
  unfold normalL
  rw [List.map_append, firsts_snoc]
  by_cases h : (firsts l).contains x = true
  · rw [if_pos h]; rfl
  · rw [if_neg h]
    have hx : x ∉ firsts l := by simpa using h
    congr 1
    · apply List.map_congr_left
      intro y hy
      rw [List.idxOf_append, if_pos ((mem_firsts l y).2 hy)]
    · simp only [List.map_cons, List.map_nil]
      rw [List.idxOf_append, if_neg hx, List.idxOf_eq_length hx]
      simp
/-- What the map of names says. -/
def Names (D : DataW Unit) (l : List Int) : Prop :=
  Maps.size D = (firsts l).length ∧ ∀ x : Int, Maps.has D (.int .i64 x) = (firsts l).contains x ∧ ((firsts l).contains x = true → D.atKey (.int .i64 x) (.lit (.int .i64 0)) = .lit (.int .i64 ((firsts l).idxOf x)))
theorem Names.none : Names (.map []) [] := ⟨rfl, fun x => ⟨rfl, fun h => by simp [firsts] at h⟩⟩
theorem Names.old {D : DataW Unit} {l : List Int} {x : Int} (h : Names D l) (hx : Maps.has D (.int .i64 x) = true) : Names D (l ++ [x]) := by
  have h1 : firsts (l ++ [x]) = firsts l := by rw [firsts_snoc, if_pos (by rw [← (h.2 x).1]; exact hx)]
  unfold Names
  rw [h1]
  exact h
theorem Names.new {D : DataW Unit} {l : List Int} {x : Int} (hT : Maps.Tidy D) (h : Names D l) (hx : Maps.has D (.int .i64 x) = false) : Names (D.put (.int .i64 x) (.lit (.int .i64 (firsts l).length))) (l ++ [x]) := by
  have hc : (firsts l).contains x = false := by rw [← (h.2 x).1]; exact hx
  have h1 : firsts (l ++ [x]) = firsts l ++ [x] := by rw [firsts_snoc, if_neg (by rw [hc]; simp)]
  have hm : x ∉ firsts l := by simpa using hc
  unfold Names
  rw [h1]
  refine ⟨by rw [size_put hT, hx, h.1]; simp, fun y => ?_⟩
  by_cases e : y = x
  · subst e
    refine ⟨by rw [has_put_same hT.isMap (k := .int .i64 y) trivial]; simp, fun _ => ?_⟩
    rw [atKey_put_same hT.isMap (k := .int .i64 y) trivial, List.idxOf_append, if_neg hm]
    simp
  · have hne : (Lit.int .i64 y) ≠ Lit.int .i64 x := fun e' => e (by injection e')
    rw [has_put_other hne, atKey_put_other hne, (h.2 y).1]
    refine ⟨by simp [e], fun hy => ?_⟩
    have hy' : (firsts l).contains y = true := by simpa [e] using hy
    rw [(h.2 y).2 hy', List.idxOf_append, if_pos (by simpa using hy')]
theorem Names.at_old {D : DataW Unit} {l : List Int} {x c : Int} (h : Names D l) (hb : Maps.has D (.int .i64 x) = true) (hat : D.atKey (.int .i64 x) (.lit (.int .i64 0)) = .lit (.int .i64 c)) : nums .i64 (normalL (l ++ [x])) = nums .i64 (normalL l) ++ [.int .i64 c] := by
  have h2 := (h.2 x).2 (by rw [← (h.2 x).1]; exact hb)
  rw [hat] at h2
  injection h2 with h2
  injection h2 with _ h2
  rw [normalL_snoc, nums_append, h2]
  rfl
theorem Names.at_new {D : DataW Unit} {l : List Int} {x : Int} (h : Names D l) (hb : Maps.has D (.int .i64 x) = false) : nums .i64 (normalL (l ++ [x])) = nums .i64 (normalL l) ++ [.int .i64 (Maps.size D : Nat)] := by
  have hm : x ∉ firsts l := by
    have := (h.2 x).1
    rw [hb] at this
    simpa using this.symm
  rw [normalL_snoc, nums_append, h.1, List.idxOf_eq_length hm]
  rfl
theorem size_wf {P : Program} {k : TypeId} {R : Value → Option (DataW Unit × List MemPlace)} {w : World} {b n m : Nat} {D : DataW Unit} (h : w.ownsMap P k R b n D) (hn : n < m) (hm : m ≤ 9223372036854775807) : (Lit.int .i64 (Maps.size D : Nat)).wf = true := by
  have := h.size_le
  exact WalkArith.wf_i64 (by omega)
theorem one_int (c : Int) : ∀ u ∈ [Value.int .i64 c], u.oneCell' = true := by intro u hu; simp at hu; subst hu; rfl
end Go.Proofs.YtflpdjmdkdgijaaGreatDoor.Plain
