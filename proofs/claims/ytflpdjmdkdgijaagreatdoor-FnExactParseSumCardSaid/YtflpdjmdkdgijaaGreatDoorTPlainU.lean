/-
  Plain lemmas on texts that are cut at a sign and joined again; numbers of a few digits. No program in sight.
-/
import Derived.Lib.Split
import Derived.Lib.Join
import Derived.Lib.ParseIntB
namespace Go.Proofs.YtflpdjmdkdgijaaGreatDoor.Plain
set_option linter.unusedVariables false
/-- A text put ahead of the first piece. -/
def preH (a : List UInt8) : List (List UInt8) → List (List UInt8)
  | [] => [a]
  | h :: t => (a ++ h) :: t
/-- The pieces of a text between the places of a sign. -/
def splitOn (c : UInt8) : List UInt8 → List (List UInt8)
  | [] => [[]]
  | b :: l => if b = c then [] :: splitOn c l else preH [b] (splitOn c l)
theorem preH_preH (a b : List UInt8) (ps : List (List UInt8)) : preH a (preH b ps) = preH (a ++ b) ps := by
  cases ps with
  | nil => rfl
  | cons h t => show ((a ++ (b ++ h)) :: t) = ((a ++ b) ++ h) :: t; rw [List.append_assoc]
theorem splitOn_cons (c : UInt8) : ∀ l : List UInt8, ∃ h t, splitOn c l = h :: t ∧ h ++ Lib.joinTail [c] t = l
  | [] => ⟨[], [], rfl, rfl⟩
  | b :: l => by
    obtain ⟨h, t, e, j⟩ := splitOn_cons c l
    unfold splitOn
    by_cases hb : b = c
    · rw [if_pos hb, e]
      refine ⟨[], h :: t, rfl, ?_⟩
      show [c] ++ h ++ Lib.joinTail [c] t = b :: l
      rw [← j, hb]; rfl
    · rw [if_neg hb, e]
      refine ⟨b :: h, t, rfl, ?_⟩
      rw [← j]; rfl
theorem preH_nil {ps : List (List UInt8)} (h : ps ≠ []) : preH [] ps = ps := by
  cases ps with
  | nil => exact absurd rfl h
  | cons h t => rfl
theorem splitOn_ne (c : UInt8) (l : List UInt8) : splitOn c l ≠ [] := by
  obtain ⟨h, t, e, _⟩ := splitOn_cons c l
  rw [e]; simp
theorem join_splitOn (c : UInt8) (l : List UInt8) : Lib.join (splitOn c l) [c] = l := by
  obtain ⟨h, t, e, j⟩ := splitOn_cons c l
  rw [e, Lib.join_cons, j]
theorem splitOn_free {c : UInt8} : ∀ {x : List UInt8}, c ∉ x → splitOn c x = [x]
  | [], _ => rfl
  | b :: x, h => by
    have hb : ¬ b = c := fun e => h (by rw [e]; exact List.mem_cons_self)
    unfold splitOn
    rw [if_neg hb, splitOn_free (x := x) (fun m => h (List.mem_cons_of_mem _ m))]
    rfl
theorem splitOn_at {c : UInt8} (l : List UInt8) : ∀ {x : List UInt8}, c ∉ x → splitOn c (x ++ c :: l) = x :: splitOn c l
  | [], _ => by show splitOn c (c :: l) = _; rw [splitOn, if_pos rfl]
  | b :: x, h => by
    have hb : ¬ b = c := fun e => h (by rw [e]; exact List.mem_cons_self)
    rw [List.cons_append, splitOn, if_neg hb, splitOn_at l (x := x) (fun m => h (List.mem_cons_of_mem _ m))]
    rfl
theorem joinTail_cons (c : UInt8) (y : List UInt8) (r : List (List UInt8)) : Lib.joinTail [c] (y :: r) = c :: (y ++ Lib.joinTail [c] r) := rfl
theorem splitOn_join {c : UInt8} : ∀ (r : List (List UInt8)) (x : List UInt8), (∀ y ∈ x :: r, c ∉ y) → splitOn c (x ++ Lib.joinTail [c] r) = x :: r
  | [], x, h => by
    show splitOn c (x ++ []) = _
    rw [List.append_nil]; exact splitOn_free (h x List.mem_cons_self)
  | y :: r, x, h => by
    rw [joinTail_cons, splitOn_at _ (h x List.mem_cons_self), splitOn_join r y (fun z hz => h z (List.mem_cons_of_mem _ hz))]
theorem splitOn_length (c : UInt8) : ∀ l : List UInt8, (splitOn c l).length ≤ l.length + 1
  | [] => Nat.le_refl _
  | b :: l => by
    have ih := splitOn_length c l
    unfold splitOn
    split
    · rw [List.length_cons, List.length_cons]; omega
    · obtain ⟨h, t, e, _⟩ := splitOn_cons c l
      rw [e] at ih ⊢
      show (([b] ++ h) :: t).length ≤ _
      rw [List.length_cons] at ih ⊢
      rw [List.length_cons]; omega
theorem splitOn_mem_length (c : UInt8) : ∀ (l : List UInt8), ∀ x ∈ splitOn c l, x.length ≤ l.length
  | [], x, h => by rw [List.mem_singleton.1 h]; exact Nat.le_refl _
  | b :: l, x, h => by
    have ih := splitOn_mem_length c l
    unfold splitOn at h
    rw [List.length_cons]
    split at h
    · rcases List.mem_cons.1 h with rfl | h
      · exact Nat.zero_le _
      · have := ih x h; omega
    · obtain ⟨h1, t, e, _⟩ := splitOn_cons c l
      rw [e] at ih h
      rcases List.mem_cons.1 h with rfl | h
      · have := ih h1 List.mem_cons_self
        rw [List.length_append, List.length_cons, List.length_nil]; omega
      · have := ih x (List.mem_cons_of_mem _ h); omega
theorem index_free {c : UInt8} : ∀ {x : List UInt8}, c ∉ x → Lib.index x [c] = -1
  | [], _ => rfl
  | b :: x, h => by
    have hb : ¬ c = b := fun e => h (by rw [e]; exact List.mem_cons_self)
    have hp : ([c] : List UInt8).isPrefixOf (b :: x) = false := by simp [List.isPrefixOf, hb]
    rw [Lib.index, hp, index_free (x := x) (fun m => h (List.mem_cons_of_mem _ m))]
    rfl
theorem index_at {c : UInt8} (l : List UInt8) : ∀ {x : List UInt8}, c ∉ x → Lib.index (x ++ c :: l) [c] = x.length
  | [], _ => by
    show Lib.index (c :: l) [c] = 0
    have hp : ([c] : List UInt8).isPrefixOf (c :: l) = true := by simp [List.isPrefixOf]
    rw [Lib.index, if_pos hp]
  | b :: x, h => by
    have hb : ¬ c = b := fun e => h (by rw [e]; exact List.mem_cons_self)
    have hp : ([c] : List UInt8).isPrefixOf (b :: (x ++ c :: l)) = false := by simp [List.isPrefixOf, hb]
    have ih := index_at l (x := x) (fun m => h (List.mem_cons_of_mem _ m))
    have hq : ((x.length : Int) == -1) = false := by rw [beq_eq_false_iff_ne]; omega
    rw [List.cons_append, Lib.index, hp, ih, hq]
    simp
theorem cut_at {c : UInt8} {x : List UInt8} (l : List UInt8) (h : c ∉ x) : Lib.cut (x ++ c :: l) [c] = (x, l, true) := by
  unfold Lib.cut
  rw [index_at l h, if_pos (by omega), Int.toNat_natCast]
  congr 1
  · simp
  · congr 1
    rw [List.drop_append, List.drop_of_length_le (by simp)]
    simp
theorem splitK_join {c : UInt8} : ∀ (r : List (List UInt8)) (x : List UInt8) (k : Nat), r.length ≤ k → (∀ y ∈ x :: r, c ∉ y) → Lib.splitK [c] 0 k (x ++ Lib.joinTail [c] r) = x :: r
  | [], x, k, hk, h => by
    show Lib.splitK [c] 0 k (x ++ []) = _
    rw [List.append_nil]
    cases k with
    | zero => rfl
    | succ k => rw [Lib.splitK, index_free (h x List.mem_cons_self)]; rfl
  | y :: r, x, k, hk, h => by
    obtain ⟨k, rfl⟩ : ∃ m, k = m + 1 := ⟨k - 1, by rw [List.length_cons] at hk; omega⟩
    have hx := h x List.mem_cons_self
    have hq : ((x.length : Int) == -1) = false := by rw [beq_eq_false_iff_ne]; omega
    rw [joinTail_cons, Lib.splitK, index_at _ hx, hq, Int.toNat_natCast]
    have e1 : (x ++ c :: (y ++ Lib.joinTail [c] r)).take (x.length + 0) = x := by rw [Nat.add_zero, List.take_append_of_le_length (Nat.le_refl _), List.take_length]
    have e2 : (x ++ c :: (y ++ Lib.joinTail [c] r)).drop (x.length + [c].length) = y ++ Lib.joinTail [c] r := by
      rw [List.drop_append, List.drop_of_length_le (by simp)]
      simp
    rw [e1, e2, splitK_join r y k (by rw [List.length_cons] at hk; omega) (fun z hz => h z (List.mem_cons_of_mem _ hz))]
    rfl
/-- The number that digits spell behind a number; -1 where a sign is no digit. -/
def numF : List UInt8 → Int → Int
  | [], a => a
  | b :: l, a => if (b.toNat : Int) < 48 then -1 else if (b.toNat : Int) > 57 then -1 else numF l (a * 10 + ((b.toNat : Int) - 48))
theorem numF_ge : ∀ (l : List UInt8) (a : Int), 0 ≤ a → numF l a = -1 ∨ a ≤ numF l a
  | [], a, _ => .inr (Int.le_refl _)
  | b :: l, a, h => by
    unfold numF
    split
    · exact .inl rfl
    · split
      · exact .inl rfl
      · rcases numF_ge l (a * 10 + ((b.toNat : Int) - 48)) (by omega) with h1 | h1
        · exact .inl h1
        · exact .inr (by omega)
def numB (s : List UInt8) : Int := if s.length = 0 ∨ 9 < s.length ∨ (1 < s.length ∧ s.head? = some 48) then -1 else numF s 0
end Go.Proofs.YtflpdjmdkdgijaaGreatDoor.Plain
