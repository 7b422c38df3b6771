/-
  The given law laws.FnExactSumText returns true for every sum: the program's SumText answers as the reference's. No condition.
-/
import Derived.Test.YtflpdjmdkdgijaaDoorTEvU
import Derived.Test.YtflpdjmdkdgijaaDoorTEvUe
import Derived.Test.YtflpdjmdkdgijaaDoorTPlainB
import Derived.Test.YtflpdjmdkdgijaaDoorTG21
import Derived.Test.YtflpdjmdkdgijaaDoorTGgT
import Derived.Test.YtflpdjmdkdgijaaDoorTG29
import Derived.Test.YtflpdjmdkdgijaaDoorTG11
import Derived.Test.YtflpdjmdkdgijaaDoorTGgO1
import Derived.Test.YtflpdjmdkdgijaaDoorTGlSumText
import Derived.Lib.Join
namespace Go.Proofs.YtflpdjmdkdgijaaDoor.Pure
open Go.RowKit Go.Proofs.YtflpdjmdkdgijaaDoor.G Go.Proofs.YtflpdjmdkdgijaaDoor.Plain Go.Proofs.YtflpdjmdkdgijaaDoorW.PrintWords Go.Proofs.YtflpdjmdkdgijaaDoorW.PrintLast
set_option linter.unusedVariables false
/-- The signs of a word. -/
def signsL (l : List Int) : List Int := l.map fun x => (97 + x) % 256
theorem signsL_take {l : List Int} {k : Nat} (h : k < l.length) : signsL (l.take (k + 1)) = signsL (l.take k) ++ [(97 + l[k]) % 256] := by
  rw [List.take_succ_eq_append_getElem h]; unfold signsL; rw [List.map_append]; rfl
theorem signsL_length (l : List Int) : (signsL l).length = l.length := by simp [signsL]
theorem wrap_mod (x : Int) : wrap64 x % 256 = x % 256 := by unfold wrap64; omega
theorem specText_loop (l : List Int) (hl : l.length ≤ 1048576) : ∀ (d k : Nat), k ≤ l.length → l.length - k = d → Ev (fun n => spec_l01Text.l0 n l (signsL (l.take k)) k) (strOfNums (signsL l)) := by
  intro d
  induction d with
  | zero =>
    intro k hk hd
    have e : k = l.length := by omega
    subst e
    refine Ev.step (fun n => by rw [spec_l01Text.l0]) ?_
    refine Ev.ite_neg (by omega) ?_
    rw [List.take_length]
    exact Ev.now _
  | succ d ih =>
    intro k hk hd
    have hlt : k < l.length := by omega
    refine Ev.step (fun n => by rw [spec_l01Text.l0]) ?_
    refine Ev.ite_pos (by omega) (Ev.ite_pos (by omega) (Ev.ite_pos (by rw [signsL_length, List.length_take]; omega) ?_))
    have h := ih (k + 1) (by omega) (by omega)
    rw [signsL_take hlt] at h
    rw [rd_at hlt, wrap_of (x := (k : Int) + 1) (by omega) (by omega), wrap_mod]
    exact h
theorem ev_spec_l01Text (l : List Int) (hl : l.length ≤ 1048576) : Ev (fun n => spec_l01Text.f n l) (strOfNums (signsL l)) := by
  unfold spec_l01Text.f
  exact specText_loop l hl l.length 0 (by omega) (by omega)
theorem implText_loop (l : List Int) (hl : l.length ≤ 1048576) : ∀ (d k : Nat), k ≤ l.length → l.length - k = d → Ev (fun n => impl_wordText.l0 n (signsL (l.take k)) l (l.length : Int) k) (strOfNums (signsL l)) := by
  intro d
  induction d with
  | zero =>
    intro k hk hd
    have e : k = l.length := by omega
    subst e
    refine Ev.step (fun n => by rw [impl_wordText.l0]) ?_
    refine Ev.ite_neg (by omega) ?_
    rw [List.take_length]
    exact Ev.now _
  | succ d ih =>
    intro k hk hd
    have hlt : k < l.length := by omega
    refine Ev.step (fun n => by rw [impl_wordText.l0]) ?_
    refine Ev.ite_pos (by omega) (Ev.ite_pos (by omega) (Ev.ite_pos (by omega) (Ev.ite_pos (by rw [signsL_length, List.length_take]; omega) ?_)))
    have h := ih (k + 1) (by omega) (by omega)
    rw [signsL_take hlt] at h
    rw [rd_at hlt, wrap_of (x := (k : Int) + 1) (by omega) (by omega)]
    exact h
theorem ev_impl_wordText (l : List Int) (hl : l.length ≤ 1048576) : Ev (fun n => impl_wordText.f n l) (strOfNums (signsL l)) := by
  unfold impl_wordText.f
  exact implText_loop l hl l.length 0 (by omega) (by omega)
/-! The terms of a sum. -/
theorem okFrom_all (p : Int) (ys : List S44) : ∀ (d k : Nat), okFrom p ys d k = true → ∀ i, k ≤ i → i < k + d → stepB p ys i = true
  | 0, _, _, i, h1, h2 => by omega
  | d + 1, k, h, i, h1, h2 => by
    rw [okFrom, Bool.and_eq_true] at h
    by_cases e : i = k
    · subst e; exact h.1
    · exact okFrom_all p ys d (k + 1) h.2 i (by omega) (by omega)
theorem sum_terms {p : Int} {ys : List S44} (h : sumB p ys = true) : ys.length ≤ 200 ∧ ∀ k (hk : k < ys.length), ys[k].f0.length ≤ 12 ∧ 0 ≤ ys[k].f1 ∧ ys[k].f1 ≤ 12 := by
  unfold sumB at h
  simp only [Bool.and_eq_true, decide_eq_true_eq] at h
  obtain ⟨hp, hl, hok⟩ := h
  refine ⟨hl, fun k hk => ?_⟩
  have hs := okFrom_all p ys ys.length 0 hok k (Nat.zero_le _) (by omega)
  unfold stepB at hs
  rw [rdJ hk] at hs
  simp only [Bool.and_eq_true, decide_eq_true_eq] at hs
  have hp2 : p ≤ 13 ∧ 2 ≤ p := by
    unfold primeB at hp
    have hp := of_decide_eq_true hp
    simp at hp
    omega
  have hw : wrap64 (p - 1) = p - 1 := wrap_of (by omega) (by omega)
  rw [hw] at hs
  exact ⟨word_length hs.1, by omega, by omega⟩
theorem decB_size (n : Int) : (decB n).size ≤ 2 := by
  unfold decB
  split
  · exact Nat.le_succ 1
  · exact Nat.le_refl 2
theorem text_size (l : List Int) : (strOfNums (signsL l)).size = l.length := by unfold strOfNums signsL; simp [ByteArray.size]
/-- A term's text. -/
def termB (y : S44) : ByteArray := (decB y.f1 ++ (⟨#[42]⟩ : ByteArray)) ++ strOfNums (signsL y.f0)
theorem ev_dec (n : Int) (h : 0 ≤ n ∧ n ≤ 12) : Ev (fun k => spec_l01Dec.f k n) (decB n) := by
  have hn : n = 0 ∨ n = 1 ∨ n = 2 ∨ n = 3 ∨ n = 4 ∨ n = 5 ∨ n = 6 ∨ n = 7 ∨ n = 8 ∨ n = 9 ∨ n = 10 ∨ n = 11 ∨ n = 12 := by omega
  refine ⟨2, fun k hk => ?_⟩
  obtain ⟨j, rfl⟩ : ∃ j, k = j + 2 := ⟨k - 2, by omega⟩
  rcases hn with rfl | rfl | rfl | rfl | rfl | rfl | rfl | rfl | rfl | rfl | rfl | rfl | rfl <;> kernel_rfl
/-- The text of the first terms, as the reference builds it. -/
def accB (ys : List S44) : Nat → ByteArray
  | 0 => ⟨#[]⟩
  | k + 1 => if k = 0 then ((accB ys k ++ decB (rd_T44 ys (k : Int)).f1) ++ (⟨#[42]⟩ : ByteArray)) ++ strOfNums (signsL (rd_T44 ys (k : Int)).f0) else (((accB ys k ++ (⟨#[43]⟩ : ByteArray)) ++ decB (rd_T44 ys (k : Int)).f1) ++ (⟨#[42]⟩ : ByteArray)) ++ strOfNums (signsL (rd_T44 ys (k : Int)).f0)
theorem size_one (b : UInt8) : (⟨#[b]⟩ : ByteArray).size = 1 := rfl
theorem accB_size {p : Int} {ys : List S44} (h : sumB p ys = true) : ∀ k, k ≤ ys.length → (accB ys k).size ≤ 16 * k
  | 0, _ => by show 0 ≤ _; omega
  | k + 1, hk => by
    have ih := accB_size h k (by omega)
    have ht := (sum_terms h).2 k (by omega)
    have hd := decB_size ys[k].f1
    rw [accB, rdJ (by omega)]
    split
    · simp only [ByteArray.size_append, text_size, size_one]; omega
    · simp only [ByteArray.size_append, text_size, size_one]; omega
theorem spec_text {p : Int} {ys : List S44} (h : sumB p ys = true) : ∀ (d k : Nat), k + d = ys.length → Ev (fun n => spec_l03Text.l0 n (accB ys k) (k : Int) p ys) (accB ys ys.length) := by
  intro d
  obtain ⟨hl, ht⟩ := sum_terms h
  induction d with
  | zero =>
    intro k hk
    obtain rfl : k = ys.length := by omega
    refine Ev.step (fun n => by rw [spec_l03Text.l0]) ?_
    exact Ev.ite_neg (by omega) (Ev.now _)
  | succ d ih =>
    intro k hk
    have hlt : k < ys.length := by omega
    have hz := accB_size h k (by omega)
    have h1 := ht k hlt
    have hd := decB_size ys[k].f1
    have i := ih (k + 1) (by omega)
    have e2 : wrap64 ((k : Int) + 1) = ((k + 1 : Nat) : Int) := by rw [wrap_of (by omega) (by omega)]; omega
    refine Ev.step (fun n => by rw [spec_l03Text.l0]) ?_
    refine Ev.ite_pos (by omega) ?_
    rw [rdJ hlt, e2]
    rw [accB, rdJ hlt] at i
    by_cases c : k = 0
    · rw [if_pos c] at i
      refine Ev.ite_neg (by omega) (Ev.ite_pos (by omega) (Ev.bind (ev_dec _ h1.2) (Ev.ite_pos (by omega) (Ev.ite_pos (by rw [ByteArray.size_append]; omega) (Ev.bind (ev_spec_l01Text _ (by omega)) (Ev.ite_pos (by simp only [ByteArray.size_append, text_size, size_one]; omega) i))))))
    · rw [if_neg c] at i
      refine Ev.ite_pos (by omega) (Ev.ite_pos (by omega) (Ev.ite_pos (by omega) (Ev.bind (ev_dec _ h1.2) (Ev.ite_pos (by simp only [ByteArray.size_append, size_one]; omega) (Ev.ite_pos (by simp only [ByteArray.size_append, size_one]; omega) (Ev.bind (ev_spec_l01Text _ (by omega)) (Ev.ite_pos (by simp only [ByteArray.size_append, text_size, size_one]; omega) i)))))))
theorem data_app (a b : ByteArray) : (a ++ b).data.toList = a.data.toList ++ b.data.toList := by simp [ByteArray.data_append]
theorem joinTail_snoc (sep : List UInt8) (r : List (List UInt8)) (x : List UInt8) : Lib.joinTail sep (r ++ [x]) = Lib.joinTail sep r ++ (sep ++ x) := by unfold Lib.joinTail; simp
theorem join_snoc (sep x : List UInt8) : ∀ (r : List (List UInt8)), Lib.join (r ++ [x]) sep = if r = [] then x else Lib.join r sep ++ (sep ++ x)
  | [] => by rw [if_pos rfl]; exact Lib.join_one x sep
  | y :: r => by
    rw [if_neg (by simp)]
    have h1 : ∀ q : List (List UInt8), Lib.join (y :: q) sep = y ++ Lib.joinTail sep q := fun q => Lib.join_cons y q sep
    rw [List.cons_append, h1, h1, joinTail_snoc, List.append_assoc]
theorem acc_join (ys : List S44) : ∀ k, k ≤ ys.length → (accB ys k).data.toList = Lib.join ((ys.take k).map fun y => (termB y).data.toList) [43]
  | 0, _ => by rw [List.take_zero]; rfl
  | k + 1, hk => by
    have ih := acc_join ys k (by omega)
    have hlt : k < ys.length := by omega
    rw [List.take_succ_eq_append_getElem hlt, List.map_append, List.map_cons, List.map_nil, join_snoc, ← ih, accB, rdJ hlt]
    by_cases c : k = 0
    · subst c
      rw [if_pos rfl, if_pos (by simp)]
      unfold accB termB
      simp only [data_app, List.append_assoc]
      rfl
    · rw [if_neg c, if_neg (by intro e; have e := congrArg List.length e; rw [List.length_map, List.length_take, List.length_nil] at e; omega)]
      unfold termB
      simp only [data_app, List.append_assoc]
def sumTextB (ys : List S44) : ByteArray := if ys.length = 0 then ⟨#[48]⟩ else accB ys ys.length
theorem acc_bytes (ys : List S44) : (⟨(Lib.join (ys.map fun y => (termB y).data.toList) [43]).toArray⟩ : ByteArray) = accB ys ys.length := by
  have h := acc_join ys ys.length (Nat.le_refl _)
  rw [List.take_length] at h
  rw [← h]
theorem ev_spec_l03Text {p : Int} {ys : List S44} (h : sumB p ys = true) : Ev (fun n => spec_l03Text.f n p ys) (sumTextB ys) := by
  unfold spec_l03Text.f sumTextB
  by_cases c : ys.length = 0
  · rw [if_pos c]
    exact Ev.ite_pos (by omega) (Ev.now _)
  · rw [if_neg c]
    exact Ev.ite_neg (by omega) (spec_text h ys.length 0 (by omega))
theorem impl_text {p : Int} {ys : List S44} (h : sumB p ys = true) : ∀ (d k : Nat), k + d = ys.length → Ev (fun n => impl_sumText.l0 n ((ys.take k).map termB) ys (ys.length : Int) (k : Int)) (sumTextB ys) := by
  intro d
  obtain ⟨hl, ht⟩ := sum_terms h
  induction d with
  | zero =>
    intro k hk
    obtain rfl : k = ys.length := by omega
    refine Ev.step (fun n => by rw [impl_sumText.l0]) ?_
    refine Ev.ite_neg (by omega) ?_
    rw [List.take_length, List.length_map]
    unfold sumTextB
    by_cases c : ys.length = 0
    · rw [if_pos c]
      exact Ev.ite_pos (by omega) (Ev.now _)
    · rw [if_neg c]
      refine Ev.ite_neg (by omega) ?_
      have hz := accB_size h ys.length (Nat.le_refl _)
      have e1 : (ys.map termB).map (fun x : ByteArray => x.data.toList) = ys.map fun y => (termB y).data.toList := by rw [List.map_map]; rfl
      have e3 : (Lib.join ((ys.map termB).map (fun x : ByteArray => x.data.toList)) [43]).length = (accB ys ys.length).size := by
        rw [e1, ← acc_bytes]
        simp [ByteArray.size]
      have hj : strings_Join.f (ys.map termB) (⟨#[43]⟩ : ByteArray) = some (accB ys ys.length) := by
        unfold strings_Join.f
        rw [if_pos ⟨by rw [List.length_map]; omega, by show (Lib.join ((ys.map termB).map (fun x : ByteArray => x.data.toList)) [43]).length ≤ _; rw [e3]; omega⟩, ← acc_bytes, ← e1]
      exact Ev.bind (Ev.const hj) (Ev.now _)
  | succ d ih =>
    intro k hk
    have hlt : k < ys.length := by omega
    have h1 := ht k hlt
    have hd := decB_size ys[k].f1
    have i := ih (k + 1) (by omega)
    have e2 : wrap64 ((k : Int) + 1) = ((k + 1 : Nat) : Int) := by rw [wrap_of (by omega) (by omega)]; omega
    refine Ev.step (fun n => by rw [impl_sumText.l0]) ?_
    refine Ev.ite_pos (by omega) (Ev.ite_pos (by omega) (Ev.ite_pos (by omega) ?_))
    rw [rdJ hlt, e2]
    rw [List.take_succ_eq_append_getElem hlt, List.map_append] at i
    have e4 : impl_decimal.f ys[k].f1 = some (decB ys[k].f1) := by unfold impl_decimal.f; rw [if_pos h1.2]
    refine Ev.bind (Ev.const e4) (Ev.ite_pos (by omega) (Ev.bind (ev_impl_wordText _ (by omega)) (Ev.ite_pos (by simp only [ByteArray.size_append, text_size, size_one]; omega) (Ev.ite_pos (by rw [List.length_map, List.length_take]; omega) i))))
def SumTextR (p : Int) (ys : List S44) : ByteArray × Int := if sumB p ys = true then (sumTextB ys, 0) else (⟨#[]⟩, 1)
theorem ev_spec_SumText (p : Int) (ys : List S44) (hl : ys.length ≤ 1048576) (hx : ∀ x ∈ ys, x.f0.length ≤ 1048576) : Ev (fun n => spec_SumText.f n p ys) (SumTextR p ys) := by
  unfold spec_SumText.f SumTextR
  refine Ev.bind (ev_spec_l03Is p ys hl hx) ?_
  by_cases e : sumB p ys = true
  · rw [if_pos e]
    exact Ev.ite_pos e (Ev.bind (ev_spec_l03Text e) (Ev.now _))
  · rw [if_neg e]
    exact Ev.ite_neg e (Ev.now _)
theorem ev_impl_SumText (p : Int) (ys : List S44) (hl : ys.length ≤ 1048576) (hx : ∀ x ∈ ys, x.f0.length ≤ 1048576 ∧ wfB x.f0 = true) : Ev (fun n => impl_SumText.f n p ys) (SumTextR p ys) := by
  unfold impl_SumText.f SumTextR
  refine Ev.bind (ev_impl_IsSum p ys hl hx) ?_
  by_cases e : sumB p ys = true
  · rw [if_pos e]
    refine Ev.ite_pos e (Ev.bind ?_ (Ev.now _))
    unfold impl_sumText.f
    exact impl_text e ys.length 0 (by omega)
  · rw [if_neg e]
    exact Ev.ite_neg e (Ev.now _)
theorem FnExactSumText (a : Int) (xs : List S42) (hn : xs.length ≤ 9223372036854775807) (ha : (Lit.int .i64 a).wf = true) (hg : ∀ y ∈ xs, y.f0.length ≤ maxLen ∧ (∀ n ∈ y.f0, (Lit.int .i64 n).wf = true) ∧ (Lit.int .i64 y.f1).wf = true) :
    ∃ k, laws_FnExactSumText.f k a xs = some true := by
  refine Ev.rounds ?_
  unfold laws_FnExactSumText.f
  obtain ⟨r, er, hr⟩ := szSum_ev a xs hn (fun x hx => (hg x hx).1)
  refine Ev.bind er ?_
  rcases hr with hr | ⟨hr, hl, hz⟩
  · exact Ev.ite_pos hr (Ev.now _)
  · have hc : ∀ y ∈ xs.map conv, y.f0.length ≤ 1048576 ∧ wfB y.f0 = true := by
      intro y hy
      obtain ⟨x, hx, rfl⟩ := List.mem_map.1 hy
      exact ⟨hz x hx, List.all_eq_true.2 (hg x hx).2.1⟩
    have hcl : (xs.map conv).length ≤ 1048576 := by rw [List.length_map]; exact hl
    have T := ev_toSum a xs hl hz
    have S := ev_spec_SumText a (xs.map conv) hcl (fun y hy => (hc y hy).1)
    have I := ev_impl_SumText a (xs.map conv) hcl hc
    have E := ev_eqSum_same a (xs.map conv) hcl (fun y hy => (hc y hy).1)
    refine Ev.ite_neg (by omega) (Ev.bind T (Ev.bind S (Ev.bind T (Ev.bind I (Ev.ite_pos rfl ?_)))))
    refine Ev.step (fun n => by rw [laws_FnExactSumText.j0]) ?_
    exact Ev.ite_neg (by simp) (Ev.bind T (Ev.bind E (Ev.ite_pos rfl (Ev.now _))))
end Go.Proofs.YtflpdjmdkdgijaaDoor.Pure
