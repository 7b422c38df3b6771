/-
  The facts that the walk of laws.FnExactParseSum is told: the program's ParseSum answers as the reference's, for every whole number and every text. No condition.
-/
import Derived.Test.YtflpdjmdkdgijaaGreatDoorTEvU
import Derived.Test.YtflpdjmdkdgijaaGreatDoorTEvUe
import Derived.Test.YtflpdjmdkdgijaaGreatDoorTEvGm
import Derived.Test.YtflpdjmdkdgijaaGreatDoorTPlainB
import Derived.Test.YtflpdjmdkdgijaaGreatDoorTPlainU
import Derived.Test.YtflpdjmdkdgijaaGreatDoorTG35
import Derived.Test.YtflpdjmdkdgijaaGreatDoorTGgO1
import Derived.Test.YtflpdjmdkdgijaaGreatDoorTGlParseSum
namespace Go.Proofs.YtflpdjmdkdgijaaGreatDoor.Pure
open Go.RowKit Go.Proofs.YtflpdjmdkdgijaaGreatDoor.G Go.Proofs.YtflpdjmdkdgijaaGreatDoor.Plain Go.Proofs.YtflpdjmdkdgijaaGreatDoorW.PrintWords Go.Proofs.YtflpdjmdkdgijaaGreatDoorW.PrintLast
set_option linter.unusedVariables false
/-- The signs of a word. -/
def signsL (l : List Int) : List Int := l.map fun x => (97 + x) % 256
theorem signsL_take {l : List Int} {k : Nat} (h : k < l.length) : signsL (l.take (k + 1)) = signsL (l.take k) ++ [(97 + l[k]) % 256] := by
  rw [List.take_succ_eq_append_getElem h]; unfold signsL; rw [List.map_append]; rfl
theorem signsL_length (l : List Int) : (signsL l).length = l.length := by simp [signsL]
theorem implText_loop (l : List Int) (hl : l.length ≤ 1048576) : ∀ (d k : Nat), k ≤ l.length → l.length - k = d → Ev (fun n => impl_wordText.l0 n (signsL (l.take k)) l (l.length : Int) k) (strOfNums (signsL l)) := by
  intro d
  induction d with
  | zero =>
    intro k hk hd
    have e : k = l.length := by omega
    subst e
    refine Ev.step (fun n => by rw [impl_wordText.l0]) ?_
    refine Ev.ite_neg (by omega) ?_
    rw [List.take_length]
    exact Ev.now _
  | succ d ih =>
    intro k hk hd
    have hlt : k < l.length := by omega
    refine Ev.step (fun n => by rw [impl_wordText.l0]) ?_
    refine Ev.ite_pos (by omega) (Ev.ite_pos (by omega) (Ev.ite_pos (by omega) (Ev.ite_pos (by rw [signsL_length, List.length_take]; omega) ?_)))
    have h := ih (k + 1) (by omega) (by omega)
    rw [signsL_take hlt] at h
    rw [rd_at hlt, wrap_of (x := (k : Int) + 1) (by omega) (by omega)]
    exact h
theorem ev_impl_wordText (l : List Int) (hl : l.length ≤ 1048576) : Ev (fun n => impl_wordText.f n l) (strOfNums (signsL l)) := by
  unfold impl_wordText.f
  exact implText_loop l hl l.length 0 (by omega) (by omega)
/-! The terms of a sum. -/
theorem okFrom_all (p : Int) (ys : List S45) : ∀ (d k : Nat), okFrom p ys d k = true → ∀ i, k ≤ i → i < k + d → stepB p ys i = true
  | 0, _, _, i, h1, h2 => by omega
  | d + 1, k, h, i, h1, h2 => by
    rw [okFrom, Bool.and_eq_true] at h
    by_cases e : i = k
    · subst e; exact h.1
    · exact okFrom_all p ys d (k + 1) h.2 i (by omega) (by omega)
theorem sum_terms {p : Int} {ys : List S45} (h : sumB p ys = true) : ys.length ≤ 200 ∧ ∀ k (hk : k < ys.length), ys[k].f0.length ≤ 12 ∧ 0 ≤ ys[k].f1 ∧ ys[k].f1 ≤ 12 := by
  unfold sumB at h
  simp only [Bool.and_eq_true, decide_eq_true_eq] at h
  obtain ⟨hp, hl, hok⟩ := h
  refine ⟨hl, fun k hk => ?_⟩
  have hs := okFrom_all p ys ys.length 0 hok k (Nat.zero_le _) (by omega)
  unfold stepB at hs
  rw [rdJ hk] at hs
  simp only [Bool.and_eq_true, decide_eq_true_eq] at hs
  have hp2 : p ≤ 13 ∧ 2 ≤ p := by
    unfold primeB at hp
    have hp := of_decide_eq_true hp
    simp at hp
    omega
  have hw : wrap64 (p - 1) = p - 1 := wrap_of (by omega) (by omega)
  rw [hw] at hs
  exact ⟨word_length hs.1, by omega, by omega⟩
theorem decB_size (n : Int) : (decB n).size ≤ 2 := by
  unfold decB
  split
  · exact Nat.le_succ 1
  · exact Nat.le_refl 2
theorem text_size (l : List Int) : (strOfNums (signsL l)).size = l.length := by unfold strOfNums signsL; simp [ByteArray.size]
/-- A term's text. -/
def termB (y : S45) : ByteArray := (decB y.f1 ++ (⟨#[42]⟩ : ByteArray)) ++ strOfNums (signsL y.f0)
/-- The text of the first terms, as the reference builds it. -/
def accB (ys : List S45) : Nat → ByteArray
  | 0 => ⟨#[]⟩
  | k + 1 => if k = 0 then ((accB ys k ++ decB (rd_T45 ys (k : Int)).f1) ++ (⟨#[42]⟩ : ByteArray)) ++ strOfNums (signsL (rd_T45 ys (k : Int)).f0) else (((accB ys k ++ (⟨#[43]⟩ : ByteArray)) ++ decB (rd_T45 ys (k : Int)).f1) ++ (⟨#[42]⟩ : ByteArray)) ++ strOfNums (signsL (rd_T45 ys (k : Int)).f0)
theorem size_one (b : UInt8) : (⟨#[b]⟩ : ByteArray).size = 1 := rfl
theorem accB_size {p : Int} {ys : List S45} (h : sumB p ys = true) : ∀ k, k ≤ ys.length → (accB ys k).size ≤ 16 * k
  | 0, _ => by show 0 ≤ _; omega
  | k + 1, hk => by
    have ih := accB_size h k (by omega)
    have ht := (sum_terms h).2 k (by omega)
    have hd := decB_size ys[k].f1
    rw [accB, rdJ (by omega)]
    split
    · simp only [ByteArray.size_append, text_size, size_one]; omega
    · simp only [ByteArray.size_append, text_size, size_one]; omega
theorem data_app (a b : ByteArray) : (a ++ b).data.toList = a.data.toList ++ b.data.toList := by simp [ByteArray.data_append]
theorem joinTail_snoc (sep : List UInt8) (r : List (List UInt8)) (x : List UInt8) : Lib.joinTail sep (r ++ [x]) = Lib.joinTail sep r ++ (sep ++ x) := by unfold Lib.joinTail; simp
theorem join_snoc (sep x : List UInt8) : ∀ (r : List (List UInt8)), Lib.join (r ++ [x]) sep = if r = [] then x else Lib.join r sep ++ (sep ++ x)
  | [] => by rw [if_pos rfl]; exact Lib.join_one x sep
  | y :: r => by
    rw [if_neg (by simp)]
    have h1 : ∀ q : List (List UInt8), Lib.join (y :: q) sep = y ++ Lib.joinTail sep q := fun q => Lib.join_cons y q sep
    rw [List.cons_append, h1, h1, joinTail_snoc, List.append_assoc]
theorem acc_join (ys : List S45) : ∀ k, k ≤ ys.length → (accB ys k).data.toList = Lib.join ((ys.take k).map fun y => (termB y).data.toList) [43]
  | 0, _ => by rw [List.take_zero]; rfl
  | k + 1, hk => by
    have ih := acc_join ys k (by omega)
    have hlt : k < ys.length := by omega
    rw [List.take_succ_eq_append_getElem hlt, List.map_append, List.map_cons, List.map_nil, join_snoc, ← ih, accB, rdJ hlt]
    by_cases c : k = 0
    · subst c
      rw [if_pos rfl, if_pos (by simp)]
      unfold accB termB
      simp only [data_app, List.append_assoc]
      rfl
    · rw [if_neg c, if_neg (by intro e; have e := congrArg List.length e; rw [List.length_map, List.length_take, List.length_nil] at e; omega)]
      unfold termB
      simp only [data_app, List.append_assoc]
def sumTextB (ys : List S45) : ByteArray := if ys.length = 0 then ⟨#[48]⟩ else accB ys ys.length
theorem acc_bytes (ys : List S45) : (⟨(Lib.join (ys.map fun y => (termB y).data.toList) [43]).toArray⟩ : ByteArray) = accB ys ys.length := by
  have h := acc_join ys ys.length (Nat.le_refl _)
  rw [List.take_length] at h
  rw [← h]
theorem impl_text {p : Int} {ys : List S45} (h : sumB p ys = true) : ∀ (d k : Nat), k + d = ys.length → Ev (fun n => impl_sumText.l0 n ((ys.take k).map termB) ys (ys.length : Int) (k : Int)) (sumTextB ys) := by
  intro d
  obtain ⟨hl, ht⟩ := sum_terms h
  induction d with
  | zero =>
    intro k hk
    obtain rfl : k = ys.length := by omega
    refine Ev.step (fun n => by rw [impl_sumText.l0]) ?_
    refine Ev.ite_neg (by omega) ?_
    rw [List.take_length, List.length_map]
    unfold sumTextB
    by_cases c : ys.length = 0
    · rw [if_pos c]
      exact Ev.ite_pos (by omega) (Ev.now _)
    · rw [if_neg c]
      refine Ev.ite_neg (by omega) ?_
      have hz := accB_size h ys.length (Nat.le_refl _)
      have e1 : (ys.map termB).map (fun x : ByteArray => x.data.toList) = ys.map fun y => (termB y).data.toList := by rw [List.map_map]; rfl
      have e3 : (Lib.join ((ys.map termB).map (fun x : ByteArray => x.data.toList)) [43]).length = (accB ys ys.length).size := by
        rw [e1, ← acc_bytes]
        simp [ByteArray.size]
      have hj : strings_Join.f (ys.map termB) (⟨#[43]⟩ : ByteArray) = some (accB ys ys.length) := by
        unfold strings_Join.f
        rw [if_pos ⟨by rw [List.length_map]; omega, by show (Lib.join ((ys.map termB).map (fun x : ByteArray => x.data.toList)) [43]).length ≤ _; rw [e3]; omega⟩, ← acc_bytes, ← e1]
      exact Ev.bind (Ev.const hj) (Ev.now _)
  | succ d ih =>
    intro k hk
    have hlt : k < ys.length := by omega
    have h1 := ht k hlt
    have hd := decB_size ys[k].f1
    have i := ih (k + 1) (by omega)
    have e2 : wrap64 ((k : Int) + 1) = ((k + 1 : Nat) : Int) := by rw [wrap_of (by omega) (by omega)]; omega
    refine Ev.step (fun n => by rw [impl_sumText.l0]) ?_
    refine Ev.ite_pos (by omega) (Ev.ite_pos (by omega) (Ev.ite_pos (by omega) ?_))
    rw [rdJ hlt, e2]
    rw [List.take_succ_eq_append_getElem hlt, List.map_append] at i
    have e4 : impl_decimal.f ys[k].f1 = some (decB ys[k].f1) := by unfold impl_decimal.f; rw [if_pos h1.2]
    refine Ev.bind (Ev.const e4) (Ev.ite_pos (by omega) (Ev.bind (ev_impl_wordText _ (by omega)) (Ev.ite_pos (by simp only [ByteArray.size_append, text_size, size_one]; omega) (Ev.ite_pos (by rw [List.length_map, List.length_take]; omega) i))))
/-! Words that are read. -/
/-- The numbers that a text's first signs tell. -/
def readL (s : ByteArray) (k : Nat) : List Int := (List.range k).map fun (i : Nat) => bt s i - 97
theorem readL_succ (s : ByteArray) (k : Nat) : readL s (k + 1) = readL s k ++ [bt s k - 97] := by simp [readL, List.range_succ]
theorem readL_length (s : ByteArray) (k : Nat) : (readL s k).length = k := by simp [readL]
theorem readL_get (s : ByteArray) (k i : Nat) (h : i < (readL s k).length) : (readL s k)[i] = bt s (i : Int) - 97 := by simp [readL]
theorem readL_wf (s : ByteArray) (k : Nat) : wfB (readL s k) = true := by
  refine List.all_eq_true.2 fun x hx => ?_
  obtain ⟨i, _, rfl⟩ := List.mem_map.1 hx
  have := bt_range s i
  exact WalkArith.wf_i64 (by omega)
theorem wrap_bt (s : ByteArray) (i : Int) : wrap64 (wrap64 (bt s i) - 97) = bt s i - 97 := by
  have := bt_range s i
  rw [wrap_of (x := bt s i) (by omega) (by omega), wrap_of (by omega) (by omega)]
def readR (s : ByteArray) : List Int × Bool := if s.size ≤ 12 then (if isWordB (readL s s.size) = true then (readL s s.size, true) else ([], false)) else ([], false)
theorem specRead_loop (s : ByteArray) (hs : s.size ≤ 12) : ∀ (d k : Nat), k ≤ s.size → s.size - k = d → Ev (fun n => spec_l01Read.l0 n s (readL s k) k) (readR s) := by
  intro d
  induction d with
  | zero =>
    intro k hk hd
    have e : k = s.size := by omega
    subst e
    refine Ev.step (fun n => by rw [spec_l01Read.l0]) ?_
    refine Ev.ite_neg (by omega) (Ev.bind (ev_spec_l01Is _) ?_)
    by_cases h : isWordB (readL s s.size) = true
    · have e : readR s = (readL s s.size, true) := by unfold readR; rw [if_pos hs, if_pos h]
      rw [e]
      exact Ev.ite_pos h (Ev.now _)
    · have e : readR s = ([], false) := by unfold readR; rw [if_pos hs, if_neg h]
      rw [e]
      exact Ev.ite_neg h (Ev.now _)
  | succ d ih =>
    intro k hk hd
    refine Ev.step (fun n => by rw [spec_l01Read.l0]) ?_
    refine Ev.ite_pos (by omega) (Ev.ite_pos (by omega) (Ev.ite_pos (by rw [readL_length]; omega) ?_))
    have h := ih (k + 1) (by omega) (by omega)
    rw [readL_succ] at h
    rw [wrap_bt, wrap_of (x := (k : Int) + 1) (by omega) (by omega)]
    exact h
theorem ev_spec_l01Read (s : ByteArray) : Ev (fun n => spec_l01Read.f n s) (readR s) := by
  unfold spec_l01Read.f
  by_cases hs : s.size ≤ 12
  · exact Ev.ite_neg (by omega) (specRead_loop s hs s.size 0 (by omega) (by omega))
  · have e : readR s = ([], false) := by unfold readR; rw [if_neg hs]
    rw [e]
    exact Ev.ite_pos (by omega) (Ev.now _)
def readI (s : ByteArray) : List Int × Bool := if s.size ≤ 12 then (readL s s.size, isWordB (readL s s.size)) else ([], false)
theorem implRead_loop (s : ByteArray) (hs : s.size ≤ 12) : ∀ (d k : Nat), k ≤ s.size → s.size - k = d → Ev (fun n => impl_readWord.l0 n s (readL s k) (s.size : Int) k) (readI s) := by
  intro d
  induction d with
  | zero =>
    intro k hk hd
    have e : k = s.size := by omega
    subst e
    refine Ev.step (fun n => by rw [impl_readWord.l0]) ?_
    have e : readI s = (readL s s.size, isWordB (readL s s.size)) := by unfold readI; rw [if_pos hs]
    rw [e]
    exact Ev.ite_neg (by omega) (Ev.bind (ev_impl_IsWord _ (readL_wf _ _)) (Ev.now _))
  | succ d ih =>
    intro k hk hd
    refine Ev.step (fun n => by rw [impl_readWord.l0]) ?_
    refine Ev.ite_pos (by omega) (Ev.ite_pos (by omega) (Ev.ite_pos (by omega) (Ev.ite_pos (by rw [readL_length]; omega) ?_)))
    have h := ih (k + 1) (by omega) (by omega)
    rw [readL_succ] at h
    rw [wrap_bt, wrap_of (x := (k : Int) + 1) (by omega) (by omega)]
    exact h
theorem ev_impl_readWord (s : ByteArray) : Ev (fun n => impl_readWord.f n s) (readI s) := by
  unfold impl_readWord.f
  by_cases hs : s.size ≤ 12
  · exact Ev.ite_neg (by omega) (implRead_loop s hs s.size 0 (by omega) (by omega))
  · have e : readI s = ([], false) := by unfold readI; rw [if_neg hs]
    rw [e]
    exact Ev.ite_pos (by omega) (Ev.now _)
/-! Texts as lists of bytes. -/
def mkS (l : List UInt8) : ByteArray := ⟨l.toArray⟩
theorem mkS_data (l : List UInt8) : (mkS l).data.toList = l := rfl
theorem mkS_size (l : List UInt8) : (mkS l).size = l.length := by rw [Lib.size_eq, mkS_data]
theorem mkS_of (s : ByteArray) : mkS s.data.toList = s := Lib.mk_data s
theorem bt_data {s : ByteArray} {k : Nat} (h : k < s.data.toList.length) : bt s (k : Int) = (s.data.toList[k].toNat : Int) := by
  have h2 : ((k : Int)).toNat < s.size := by rw [Int.toNat_natCast, Lib.size_eq]; exact h
  unfold bt
  rw [dif_pos h2]
  rfl
theorem drop_byte {s : ByteArray} {k : Nat} (h : k < s.size) : ∃ b : UInt8, s.data.toList.drop k = b :: s.data.toList.drop (k + 1) ∧ bt s (k : Int) = (b.toNat : Int) ∧ s.data.toList[k]? = some b := by
  have h2 : k < s.data.toList.length := by rw [← Lib.size_eq]; exact h
  exact ⟨s.data.toList[k], List.drop_eq_getElem_cons h2, bt_data h2, List.getElem?_eq_getElem h2⟩
theorem ev_split_loop (s : ByteArray) (hs : s.size ≤ 1048576) (c : UInt8) (x1 : Int) (hx : x1 = (c.toNat : Int)) : ∀ (d k i : Nat) (out : List ByteArray), k ≤ s.size → s.size - k = d → i ≤ k → out.length ≤ k →
    Ev (fun n => spec_l01Split.l0 n s x1 out (i : Int) (k : Int)) (out ++ (preH ((s.data.toList.drop i).take (k - i)) (splitOn c (s.data.toList.drop k))).map mkS) := by
  intro d
  induction d with
  | zero =>
    intro k i out hk hd hi ho
    obtain rfl : k = s.size := by omega
    have e1 : s.data.toList.drop s.size = [] := List.drop_of_length_le (by rw [← Lib.size_eq]; exact Nat.le_refl _)
    refine Ev.step (fun n => by rw [spec_l01Split.l0]) ?_
    refine Ev.ite_neg (by omega) (Ev.ite_pos (by omega) (Ev.ite_pos (by omega) (Ev.ite_pos (by omega) ?_)))
    rw [e1, Int.toNat_natCast, Lib.extract_eq]
    show Ev (fun _ => some (out ++ [mkS ((s.data.toList.drop i).take (s.size - i))])) (out ++ [mkS ((s.data.toList.drop i).take (s.size - i) ++ [])])
    rw [List.append_nil]
    exact Ev.now _
  | succ d ih =>
    intro k i out hk hd hi ho
    have hlt : k < s.size := by omega
    have hA : (k : Int) < (s.size : Int) := by omega
    have hB : 0 ≤ (k : Int) := by omega
    obtain ⟨b, e1, e2, e3⟩ := drop_byte hlt
    have ew : wrap64 ((k : Int) + 1) = ((k + 1 : Nat) : Int) := by rw [wrap_of (by omega) (by omega)]; omega
    refine Ev.step (fun n => by rw [spec_l01Split.l0]) ?_
    refine Ev.ite_pos hA (Ev.ite_pos hB ?_)
    rw [e2, hx, ew, e1, splitOn]
    clear ew e2 e1
    by_cases hb : b = c
    · rw [if_pos hb]
      refine Ev.ite_pos (by rw [hb]) (Ev.ite_pos (by omega) (Ev.ite_pos (by omega) (Ev.ite_pos (by omega) (Ev.ite_pos (by omega) ?_))))
      have h := ih (k + 1) (k + 1) (out ++ [s.extract i k]) (by omega) (by omega) (Nat.le_refl _) (by rw [List.length_append, List.length_cons, List.length_nil]; omega)
      rw [Nat.sub_self, List.take_zero, preH_nil (splitOn_ne _ _), hx, Lib.extract_eq, List.append_assoc] at h
      rw [Int.toNat_natCast, Int.toNat_natCast, Lib.extract_eq]
      show Ev _ (out ++ (mkS ((s.data.toList.drop i).take (k - i) ++ []) :: (splitOn c (s.data.toList.drop (k + 1))).map mkS))
      rw [List.append_nil]
      exact h
    · rw [if_neg hb]
      refine Ev.ite_neg (fun e => hb (UInt8.toNat_inj.1 (by omega))) ?_
      have h := ih (k + 1) i out (by omega) (by omega) (by omega) (by omega)
      rw [hx] at h
      rw [preH_preH]
      have e4 : (s.data.toList.drop i).take (k + 1 - i) = (s.data.toList.drop i).take (k - i) ++ [b] := by
        rw [show k + 1 - i = (k - i) + 1 by omega, List.take_add_one, List.getElem?_drop, show i + (k - i) = k by omega, e3]
        rfl
      rw [e4] at h
      exact h
theorem ev_split (s : ByteArray) (hs : s.size ≤ 1048576) (c : UInt8) (x1 : Int) (hx : x1 = (c.toNat : Int)) : Ev (fun n => spec_l01Split.f n s x1) ((splitOn c s.data.toList).map mkS) := by
  unfold spec_l01Split.f
  have h := ev_split_loop s hs c x1 hx s.size 0 0 [] (by omega) (by omega) (Nat.le_refl _) (Nat.le_refl _)
  rw [Nat.sub_self, List.take_zero, List.drop_zero, preH_nil (splitOn_ne _ _)] at h
  exact h
theorem ev_num_loop (s : ByteArray) (hs : s.size ≤ 9) : ∀ (d k : Nat) (a : Int), k ≤ s.size → s.size - k = d → 0 ≤ a → a < ((10 ^ k : Nat) : Int) → Ev (fun n => spec_l01Number.l0 n s a (k : Int)) (numF (s.data.toList.drop k) a) := by
  intro d
  induction d with
  | zero =>
    intro k a hk hd h0 h1
    have e1 : s.data.toList.drop k = [] := List.drop_of_length_le (by rw [← Lib.size_eq]; omega)
    refine Ev.step (fun n => by rw [spec_l01Number.l0]) (Ev.ite_neg (by omega) ?_)
    rw [e1, numF]
    exact Ev.now _
  | succ d ih =>
    intro k a hk hd h0 h1
    obtain ⟨b, e1, e2, _⟩ := drop_byte (show k < s.size by omega)
    have hp : 10 ^ k ≤ 10 ^ 8 := Nat.pow_le_pow_right (by omega) (by omega)
    have hq : 10 ^ (k + 1) = 10 ^ k * 10 := Nat.pow_succ ..
    generalize 10 ^ k = P at h1 hp hq
    have ew : wrap64 ((k : Int) + 1) = ((k + 1 : Nat) : Int) := by rw [wrap_of (by omega) (by omega)]; omega
    have hb := b.toNat_lt
    refine Ev.step (fun n => by rw [spec_l01Number.l0]) (Ev.ite_pos (by omega) (Ev.ite_pos (by omega) ?_))
    rw [e1, e2, numF, ew]
    by_cases c1 : (b.toNat : Int) < 48
    · rw [if_pos c1]
      exact Ev.ite_pos c1 (Ev.now _)
    · rw [if_neg c1]
      refine Ev.ite_neg c1 ?_
      by_cases c2 : (b.toNat : Int) > 57
      · rw [if_pos c2]
        exact Ev.ite_pos c2 (Ev.now _)
      · rw [if_neg c2]
        refine Ev.ite_neg c2 ?_
        have e3 : wrap64 (wrap64 (a * 10) + (((b.toNat : Int) - 48) % 256)) = a * 10 + ((b.toNat : Int) - 48) := by
          rw [wrap_of (x := a * 10) (by omega) (by omega), wrap_of (by omega) (by omega)]
          omega
        rw [e3]
        exact ih (k + 1) _ (by omega) (by omega) (by omega) (by rw [hq]; omega)
theorem ev_spec_l01Number (s : ByteArray) : Ev (fun n => spec_l01Number.f n s) (numB s.data.toList) := by
  unfold spec_l01Number.f numB
  have hz := Lib.size_eq s
  have J1 : Ev (fun n => spec_l01Number.j0 n s true) (-1) := Ev.step (fun n => by rw [spec_l01Number.j0]) (Ev.ite_pos rfl (Ev.now _))
  by_cases h0 : s.size = 0
  · rw [if_pos (.inl (by omega))]
    exact Ev.ite_pos (by omega) J1
  · refine Ev.ite_neg (by omega) ?_
    by_cases h9 : 9 < s.size
    · rw [if_pos (.inr (.inl (by omega)))]
      exact Ev.ite_pos (by omega) J1
    · refine Ev.ite_neg (by omega) ?_
      have J2 : Ev (fun n => spec_l01Number.j0 n s false) (numF s.data.toList 0) := by
        refine Ev.step (fun n => by rw [spec_l01Number.j0]) (Ev.ite_neg (by decide) ?_)
        exact ev_num_loop s (by omega) s.size 0 0 (by omega) (by omega) (by omega) (by decide)
      by_cases h1 : 1 < s.size
      · refine Ev.ite_pos (by omega) (Ev.ite_pos (by omega) ?_)
        obtain ⟨b, e1, e2, e3⟩ := drop_byte (show 0 < s.size by omega)
        have eh : s.data.toList.head? = some b := by rw [List.head?_eq_getElem?]; exact e3
        have e4 : bt s 0 = (b.toNat : Int) := e2
        rw [e4]
        by_cases hb : b = 48
        · rw [if_pos (.inr (.inr ⟨by omega, by rw [eh, hb]⟩)), hb]
          exact J1
        · have hn : ¬ (b.toNat : Int) = 48 := fun e => hb (UInt8.toNat_inj.1 (show b.toNat = 48 by omega))
          rw [if_neg (by rw [eh]; rintro (h | h | ⟨_, h⟩) <;> first | omega | exact hb (Option.some.inj h)), beq_eq_false_iff_ne.2 hn]
          exact J2
      · rw [if_neg (by rintro (h | h | ⟨h, _⟩) <;> omega)]
        exact Ev.ite_neg (by omega) J2
/-! The reference reads. -/
theorem readR_len (s : ByteArray) : (readR s).1.length ≤ 12 := by
  unfold readR
  split
  · split
    · rw [readL_length]; omega
    · exact Nat.zero_le _
  · exact Nat.zero_le _
theorem readI_len (s : ByteArray) : (readI s).1.length ≤ 12 ∧ wfB (readI s).1 = true := by
  unfold readI
  split
  · exact ⟨by rw [readL_length]; omega, readL_wf _ _⟩
  · exact ⟨Nat.zero_le _, rfl⟩
/-- A piece, read as a term. -/
def termOf (x : List UInt8) : Option S45 :=
  if (splitOn 42 x).length = 2 then (if (readR (mkS ((splitOn 42 x).getD 1 []))).2 = true then some ⟨(readR (mkS ((splitOn 42 x).getD 1 []))).1, numB ((splitOn 42 x).getD 0 [])⟩ else none) else none
def specL (p : Int) : List (List UInt8) → List S45 → List S45 × Bool
  | [], acc => (acc, sumB p acc)
  | x :: xs, acc => match termOf x with
    | none => (acc, false)
    | some t => specL p xs (acc ++ [t])
theorem rd_mkS {ps : List (List UInt8)} {k : Nat} (h : k < ps.length) : rdOf ByteArray.empty (ps.map mkS) (k : Int) = mkS ps[k] := by
  unfold rdOf
  rw [Int.toNat_natCast, List.getD_eq_getElem?_getD, List.getElem?_map, List.getElem?_eq_getElem h]
  rfl
theorem rd_mkS' {ps : List (List UInt8)} {k : Nat} (h : k < ps.length) : rdOf ByteArray.empty (ps.map mkS) (k : Int) = mkS (ps.getD k []) := by
  rw [rd_mkS h, List.getD_eq_getElem?_getD, List.getElem?_eq_getElem h]
  rfl
theorem ev_read_loop (p : Int) (ps : List (List UInt8)) (hp : ps.length ≤ 1048577) (hz : ∀ x ∈ ps, x.length ≤ 1048576) : ∀ (d k : Nat) (acc : List S45), k ≤ ps.length → ps.length - k = d → acc.length ≤ k → (∀ y ∈ acc, y.f0.length ≤ 12) →
    Ev (fun n => spec_l03Read.l0 n (ps.map mkS) (k : Int) p acc) (p, (specL p (ps.drop k) acc).1, (specL p (ps.drop k) acc).2) := by
  intro d
  induction d with
  | zero =>
    intro k acc hk hd ha hw
    have e1 : ps.drop k = [] := List.drop_of_length_le (by omega)
    refine Ev.step (fun n => by rw [spec_l03Read.l0]) (Ev.ite_neg (by rw [List.length_map]; omega) ?_)
    rw [e1, specL]
    exact Ev.bind (ev_spec_l03Is_any p acc (fun y hy => by have := hw y hy; omega)) (Ev.now _)
  | succ d ih =>
    intro k acc hk hd ha hw
    have hlt : k < ps.length := by omega
    have e1 : ps.drop k = ps[k] :: ps.drop (k + 1) := List.drop_eq_getElem_cons hlt
    have hx := hz ps[k] (List.getElem_mem hlt)
    have hA : (k : Int) < ((ps.map mkS).length : Int) := by rw [List.length_map]; omega
    have hB : 0 ≤ (k : Int) := by omega
    have hC : acc.length < 4398046511104 := by omega
    have ew : wrap64 ((k : Int) + 1) = ((k + 1 : Nat) : Int) := by rw [wrap_of (by omega) (by omega)]; omega
    have hs := ev_split (mkS ps[k]) (by rw [mkS_size]; exact hx) 42 42 rfl
    rw [mkS_data] at hs
    refine Ev.step (fun n => by rw [spec_l03Read.l0]) (Ev.ite_pos hA (Ev.ite_pos hB ?_))
    rw [rd_mkS hlt, e1, specL, ew]
    clear ew
    refine Ev.bind hs ?_
    have hl : (((splitOn 42 ps[k]).map mkS).length : Int) = ((splitOn 42 ps[k]).length : Int) := by rw [List.length_map]
    rw [hl]
    unfold termOf
    by_cases h2 : (splitOn 42 ps[k]).length = 2
    · have r0 : rdOf ByteArray.empty ((splitOn 42 ps[k]).map mkS) 0 = mkS ((splitOn 42 ps[k]).getD 0 []) := rd_mkS' (k := 0) (by omega)
      have r1 : rdOf ByteArray.empty ((splitOn 42 ps[k]).map mkS) 1 = mkS ((splitOn 42 ps[k]).getD 1 []) := rd_mkS' (k := 1) (by omega)
      rw [if_pos h2, r0, r1]
      refine Ev.ite_pos (by omega) (Ev.ite_pos (by omega) (Ev.bind (ev_spec_l01Read _) ?_))
      by_cases h3 : (readR (mkS ((splitOn 42 ps[k]).getD 1 []))).2 = true
      · rw [if_pos h3]
        refine Ev.ite_pos h3 (Ev.ite_pos (by omega) (Ev.bind (ev_spec_l01Number _) (Ev.ite_pos hC ?_)))
        rw [mkS_data]
        refine ih (k + 1) _ (by omega) (by omega) (by rw [List.length_append, List.length_cons, List.length_nil]; omega) (fun y hy => ?_)
        rcases List.mem_append.1 hy with hy | hy
        · exact hw y hy
        · rw [List.mem_singleton.1 hy]
          exact readR_len _
      · rw [if_neg h3]
        exact Ev.ite_neg h3 (Ev.now _)
    · rw [if_neg h2]
      exact Ev.ite_neg (by omega) (Ev.now _)
def specR (p : Int) (t : ByteArray) : List S45 × Bool := if t.toList = ([48] : List UInt8) then ([], true) else specL p (splitOn 43 t.data.toList) []
theorem ev_spec_l03Read (p : Int) (t : ByteArray) (ht : t.size ≤ 1048576) : Ev (fun n => spec_l03Read.f n p t) (p, (specR p t).1, (specR p t).2) := by
  unfold spec_l03Read.f spec_l03Empty.f specR
  refine Ev.bind (Ev.now _) ?_
  by_cases h : t.toList = ([48] : List UInt8)
  · rw [if_pos h]
    exact Ev.ite_pos h (Ev.now _)
  · rw [if_neg h]
    refine Ev.ite_neg h (Ev.bind (ev_split t ht 43 43 rfl) ?_)
    have hz := Lib.size_eq t
    have hl := splitOn_length 43 t.data.toList
    exact ev_read_loop p (splitOn 43 t.data.toList) (by omega) (fun x hx => by have := splitOn_mem_length 43 _ x hx; omega) _ 0 [] (by omega) rfl (Nat.le_refl _) (fun y hy => (List.not_mem_nil hy).elim)
/-! The program reads. -/
def implT (x : ByteArray) : S45 := ⟨(readI ⟨(Lib.cut x.data.toList [42]).2.1.toArray⟩).1, parseI ⟨(Lib.cut x.data.toList [42]).1.toArray⟩⟩
def implR (p : Int) (t : ByteArray) (L : List S45) : Int × List S45 × Int := if sumB p L = true then (if (sumTextB L).toList = t.toList then (p, L, 0) else (0, [], 6)) else (0, [], 6)
theorem ev_impl_sumText {p : Int} {L : List S45} (h : sumB p L = true) : Ev (fun n => impl_sumText.f n p L) (sumTextB L) := by
  unfold impl_sumText.f
  exact impl_text h L.length 0 (by omega)
theorem ev_tell (p : Int) (t : ByteArray) (L : List S45) (hl : L.length ≤ 1048576) (hw : ∀ y ∈ L, y.f0.length ≤ 12 ∧ wfB y.f0 = true) : Ev (fun n => impl_ParseSum.j1 n t p L) (implR p t L) := by
  unfold implR
  refine Ev.step (fun n => by rw [impl_ParseSum.j1]) (Ev.bind (ev_impl_IsSum p L hl (fun y hy => ⟨by have := (hw y hy).1; omega, (hw y hy).2⟩)) ?_)
  by_cases c : sumB p L = true
  · rw [if_pos c]
    refine Ev.ite_pos c (Ev.bind (ev_impl_sumText c) ?_)
    by_cases e : (sumTextB L).toList = t.toList
    · refine Ev.ite_pos e ?_
      rw [if_pos e]
      exact Ev.now _
    · refine Ev.ite_neg e ?_
      rw [if_neg e]
      exact Ev.now _
  · rw [if_neg c]
    exact Ev.ite_neg c (Ev.now _)
theorem implT_ok (ps : List ByteArray) : ∀ y ∈ ps.map implT, y.f0.length ≤ 12 ∧ wfB y.f0 = true := by
  intro y hy
  obtain ⟨x, _, rfl⟩ := List.mem_map.1 hy
  exact readI_len _
theorem ev_impl_loop (p : Int) (t : ByteArray) (hn : t.toList ≠ ([48] : List UInt8)) (ps : List ByteArray) (hp : ps.length ≤ 201) (hz : ∀ x ∈ ps, x.size < 4294967281) : ∀ (d k : Nat), k ≤ ps.length → ps.length - k = d →
    Ev (fun n => impl_ParseSum.l0 n t ps (ps.length : Int) (k : Int) p ((ps.take k).map implT)) (implR p t (ps.map implT)) := by
  intro d
  induction d with
  | zero =>
    intro k hk hd
    obtain rfl : k = ps.length := by omega
    refine Ev.step (fun n => by rw [impl_ParseSum.l0]) (Ev.ite_neg (by omega) ?_)
    rw [List.take_length]
    exact ev_tell p t _ (by rw [List.length_map]; omega) (implT_ok ps)
  | succ d ih =>
    intro k hk hd
    have hlt : k < ps.length := by omega
    have i := ih (k + 1) (by omega) (by omega)
    rw [List.take_succ_eq_append_getElem hlt, List.map_append] at i
    have hA : (k : Int) < (ps.length : Int) := by omega
    have hB : 0 ≤ (k : Int) := by omega
    have hC : ((ps.take k).map implT).length < 4398046511104 := by rw [List.length_map, List.length_take]; omega
    have ew : wrap64 ((k : Int) + 1) = ((k + 1 : Nat) : Int) := by rw [wrap_of (by omega) (by omega)]; omega
    have hr : rdOf ByteArray.empty ps (k : Int) = ps[k] := by
      unfold rdOf
      rw [Int.toNat_natCast, List.getD_eq_getElem?_getD, List.getElem?_eq_getElem hlt]
      rfl
    have hc : strings_Cut.f ps[k] (⟨#[42]⟩ : ByteArray) = some (⟨(Lib.cut ps[k].data.toList [42]).1.toArray⟩, ⟨(Lib.cut ps[k].data.toList [42]).2.1.toArray⟩, (Lib.cut ps[k].data.toList [42]).2.2) := by
      unfold strings_Cut.f
      rw [if_pos (hz _ (List.getElem_mem hlt))]
    refine Ev.step (fun n => by rw [impl_ParseSum.l0]) (Ev.ite_pos hA (Ev.ite_pos hB (Ev.ite_pos hA (Ev.ite_neg hn ?_))))
    rw [hr, ew]
    clear ew
    exact Ev.bind (Ev.const hc) (Ev.bind (ev_impl_readWord _) (Ev.ite_pos hC i))
/-! A sum's text, cut and read again. -/
theorem terms_ok {p : Int} {L : List S45} (h : sumB p L = true) : L.length ≤ 200 ∧ ∀ y ∈ L, isWordB y.f0 = true ∧ 1 ≤ y.f1 ∧ y.f1 ≤ 12 := by
  refine ⟨(sum_terms h).1, fun y hy => ?_⟩
  obtain ⟨k, hk, rfl⟩ := List.mem_iff_getElem.1 hy
  have h2 := ((sum_terms h).2 k hk).2.2
  unfold sumB at h
  simp only [Bool.and_eq_true, decide_eq_true_eq] at h
  have hs := okFrom_all p L L.length 0 h.2.2 k (Nat.zero_le _) (by omega)
  unfold stepB at hs
  rw [rdJ hk] at hs
  simp only [Bool.and_eq_true, decide_eq_true_eq] at hs
  exact ⟨hs.1, hs.2.1.1, h2⟩
theorem dec_cases {n : Int} (h1 : 1 ≤ n) (h2 : n ≤ 12) : n = 1 ∨ n = 2 ∨ n = 3 ∨ n = 4 ∨ n = 5 ∨ n = 6 ∨ n = 7 ∨ n = 8 ∨ n = 9 ∨ n = 10 ∨ n = 11 ∨ n = 12 := by omega
theorem dec_free {n : Int} (h1 : 1 ≤ n) (h2 : n ≤ 12) : 42 ∉ (decB n).data.toList ∧ 43 ∉ (decB n).data.toList := by
  rcases dec_cases h1 h2 with rfl | rfl | rfl | rfl | rfl | rfl | rfl | rfl | rfl | rfl | rfl | rfl <;> exact ⟨by decide, by decide⟩
theorem num_dec {n : Int} (h1 : 1 ≤ n) (h2 : n ≤ 12) : numB (decB n).data.toList = n := by
  rcases dec_cases h1 h2 with rfl | rfl | rfl | rfl | rfl | rfl | rfl | rfl | rfl | rfl | rfl | rfl <;> decide
theorem parse_dec {n : Int} (h1 : 1 ≤ n) (h2 : n ≤ 12) : parseI (decB n) = n := by
  rcases dec_cases h1 h2 with rfl | rfl | rfl | rfl | rfl | rfl | rfl | rfl | rfl | rfl | rfl | rfl <;> kernel_rfl
theorem byte_of {b : UInt8} {n : Nat} (h : b.toNat = n) : UInt8.ofNat n = b := by rw [← h]; exact UInt8.ofNat_toNat
theorem dec_num {s : List UInt8} {n : Int} (h : numB s = n) (h1 : 1 ≤ n) (h2 : n ≤ 12) : s = (decB n).data.toList := by
  unfold numB at h
  match s, h with
  | [], h => rw [if_pos (.inl rfl)] at h; omega
  | [b], h =>
    rw [if_neg (by rintro (h | h | ⟨h, _⟩) <;> simp at h), numF] at h
    split at h
    · omega
    · split at h
      · omega
      · rw [numF] at h
        have hb : b.toNat = 48 + n.toNat := by omega
        unfold decB
        rw [if_pos (by omega), byte_of hb]
  | [b, c], h =>
    by_cases hb : b = 48
    · rw [if_pos (.inr (.inr ⟨by simp, by rw [hb]; rfl⟩))] at h; omega
    · have hn : b.toNat ≠ 48 := fun e => hb (UInt8.toNat_inj.1 e)
      rw [if_neg (by rintro (h | h | ⟨_, h⟩) <;> first | (simp at h; done) | exact hb (Option.some.inj h)), numF] at h
      split at h
      · omega
      · split at h
        · omega
        · rw [numF] at h
          split at h
          · omega
          · split at h
            · omega
            · rw [numF] at h
              have e1 : b.toNat = 49 := by omega
              have e2 : c.toNat = 48 + (n - 10).toNat := by omega
              unfold decB
              rw [if_neg (by omega), byte_of e2]
              have e3 : b = 49 := UInt8.toNat_inj.1 e1
              rw [e3]
  | b :: c :: e :: l, h =>
    by_cases hq : 9 < (b :: c :: e :: l).length
    · rw [if_pos (.inr (.inl hq))] at h; omega
    · by_cases hb : b = 48
      · rw [if_pos (.inr (.inr ⟨by simp, by rw [hb]; rfl⟩))] at h; omega
      · have hn : b.toNat ≠ 48 := fun e => hb (UInt8.toNat_inj.1 e)
        rw [if_neg (by rintro (h | h | ⟨_, h⟩) <;> first | (simp at h; done) | exact hq h | exact hb (Option.some.inj h)), numF] at h
        split at h
        · omega
        · split at h
          · omega
          · rw [numF] at h
            split at h
            · omega
            · split at h
              · omega
              · rw [numF] at h
                split at h
                · omega
                · split at h
                  · omega
                  · exfalso
                    rcases numF_ge l _ (show (0 : Int) ≤ ((0 * 10 + ((b.toNat : Int) - 48)) * 10 + ((c.toNat : Int) - 48)) * 10 + ((e.toNat : Int) - 48) by omega) with g | g <;> omega
/-! The signs of a word, and back. -/
theorem sign_of {x : Int} (h0 : 0 ≤ x) (h1 : x < 7) : (UInt8.ofNat ((97 + x) % 256).toNat).toNat = 97 + x.toNat := by
  have hx : x = 0 ∨ x = 1 ∨ x = 2 ∨ x = 3 ∨ x = 4 ∨ x = 5 ∨ x = 6 := by omega
  rcases hx with rfl | rfl | rfl | rfl | rfl | rfl | rfl <;> rfl
theorem word_small {w : List Int} (h : isWordB w = true) {x : Int} (hx : x ∈ w) : 0 ≤ x ∧ x < 7 := by
  have h1 := word_mem h hx
  have h2 := word_length h
  omega
theorem signs_data (w : List Int) : (strOfNums (signsL w)).data.toList = w.map fun x => UInt8.ofNat ((97 + x) % 256).toNat := by
  rw [strOfNums_data]; unfold signsL; rw [List.map_map]; rfl
theorem signs_free {w : List Int} (h : isWordB w = true) : 42 ∉ (strOfNums (signsL w)).data.toList ∧ 43 ∉ (strOfNums (signsL w)).data.toList := by
  rw [signs_data]
  constructor <;>
  · intro hm
    obtain ⟨x, hx, e⟩ := List.mem_map.1 hm
    have hw := word_small h hx
    have h2 := sign_of hw.1 hw.2
    rw [e] at h2
    have h3 : (42 : UInt8).toNat = 42 := rfl
    have h4 : (43 : UInt8).toNat = 43 := rfl
    omega
theorem read_signs {w : List Int} (h : isWordB w = true) : readL (strOfNums (signsL w)) (strOfNums (signsL w)).size = w := by
  have hz : (strOfNums (signsL w)).size = w.length := text_size w
  rw [hz]
  apply List.ext_getElem (readL_length _ _)
  intro i h1 h2
  have hd : i < (strOfNums (signsL w)).data.toList.length := by rw [← Lib.size_eq, hz]; exact h2
  rw [readL_get, bt_data hd]
  have hw := word_small h (List.getElem_mem h2)
  have hs := sign_of hw.1 hw.2
  have e : (strOfNums (signsL w)).data.toList[i] = UInt8.ofNat ((97 + w[i]) % 256).toNat := by
    simp only [signs_data, List.getElem_map]
  rw [e, hs]
  omega
theorem signs_read (s : ByteArray) : (strOfNums (signsL (readL s s.size))).data.toList = s.data.toList := by
  rw [signs_data]
  apply List.ext_getElem
  · rw [List.length_map, readL_length, Lib.size_eq]
  · intro i h1 h2
    rw [List.getElem_map, readL_get, bt_data h2]
    have hb := s.data.toList[i].toNat_lt
    exact byte_of (by omega)
theorem readR_word {w : List Int} (h : isWordB w = true) : readR (strOfNums (signsL w)) = (w, true) := by
  have hz : (strOfNums (signsL w)).size = w.length := text_size w
  have hl := word_length h
  have hr := read_signs h
  unfold readR
  rw [if_pos (by omega), hr, if_pos h]
theorem readI_word {w : List Int} (h : isWordB w = true) : readI (strOfNums (signsL w)) = (w, true) := by
  have hz : (strOfNums (signsL w)).size = w.length := text_size w
  have hl := word_length h
  have hr := read_signs h
  unfold readI
  rw [if_pos (by omega), hr, h]
theorem readR_true {s : ByteArray} (h : (readR s).2 = true) : (readR s).1 = readL s s.size := by
  unfold readR at h ⊢
  split
  · rename_i c
    rw [if_pos c] at h
    split
    · rfl
    · rename_i g
      rw [if_neg g] at h
      cases h
  · rename_i c
    rw [if_neg c] at h
    cases h
theorem term_data (y : S45) : (termB y).data.toList = (decB y.f1).data.toList ++ 42 :: (strOfNums (signsL y.f0)).data.toList := by
  unfold termB
  rw [data_app, data_app, List.append_assoc]
  rfl
theorem term_free {y : S45} (hw : isWordB y.f0 = true) (h1 : 1 ≤ y.f1) (h2 : y.f1 ≤ 12) : 43 ∉ (termB y).data.toList := by
  rw [term_data]
  intro hm
  rcases List.mem_append.1 hm with hm | hm
  · exact (dec_free h1 h2).2 hm
  · rcases List.mem_cons.1 hm with hm | hm
    · exact absurd hm (by decide)
    · exact (signs_free hw).2 hm
theorem termOf_term {y : S45} (hw : isWordB y.f0 = true) (h1 : 1 ≤ y.f1) (h2 : y.f1 ≤ 12) : termOf (termB y).data.toList = some y := by
  have e : splitOn 42 (termB y).data.toList = [(decB y.f1).data.toList, (strOfNums (signsL y.f0)).data.toList] := by
    rw [term_data, splitOn_at _ (dec_free h1 h2).1, splitOn_free (signs_free hw).1]
  unfold termOf
  rw [e, if_pos (by simp)]
  show (if (readR (mkS (strOfNums (signsL y.f0)).data.toList)).2 = true then some (⟨(readR (mkS (strOfNums (signsL y.f0)).data.toList)).1, numB (decB y.f1).data.toList⟩ : S45) else none) = some y
  rw [mkS_of, readR_word hw, if_pos rfl, num_dec h1 h2]
theorem implT_term {y : S45} (hw : isWordB y.f0 = true) (h1 : 1 ≤ y.f1) (h2 : y.f1 ≤ 12) : implT (termB y) = y := by
  unfold implT
  rw [term_data, cut_at _ (dec_free h1 h2).1]
  show (⟨(readI (mkS (strOfNums (signsL y.f0)).data.toList)).1, parseI (mkS (decB y.f1).data.toList)⟩ : S45) = y
  rw [mkS_of, mkS_of, readI_word hw, parse_dec h1 h2]
theorem text_of_term {x : List UInt8} {y : S45} (h : termOf x = some y) (h1 : 1 ≤ y.f1) (h2 : y.f1 ≤ 12) : x = (termB y).data.toList := by
  unfold termOf at h
  split at h
  · rename_i hl
    split at h
    · rename_i hr
      have hj := join_splitOn 42 x
      generalize splitOn 42 x = q at h hl hr hj
      match q, hl with
      | [a, b], _ =>
        have e := Option.some.inj h
        subst e
        have ea : a = (decB (numB a)).data.toList := dec_num rfl h1 h2
        have eb : (strOfNums (signsL (readR (mkS b)).1)).data.toList = b := by
          have hr' : (readR (mkS b)).2 = true := hr
          rw [readR_true hr', signs_read, mkS_data]
        rw [term_data]
        show x = (decB (numB a)).data.toList ++ 42 :: (strOfNums (signsL (readR (mkS b)).1)).data.toList
        rw [eb, ← ea, ← hj, Lib.join_cons, joinTail_cons]
        show a ++ 42 :: (b ++ []) = _
        rw [List.append_nil]
    · cases h
  · cases h
/-! Both ways. -/
def bytesT (y : S45) : List UInt8 := (termB y).data.toList
theorem text_join {L : List S45} (hn : L ≠ []) : (sumTextB L).data.toList = Lib.join (L.map bytesT) [43] := by
  unfold sumTextB
  have h0 : ¬ L.length = 0 := fun e => hn (List.eq_nil_of_length_eq_zero e)
  rw [if_neg h0]
  have h := acc_join L L.length (Nat.le_refl _)
  rw [List.take_length] at h
  exact h
theorem free_all {p : Int} {L : List S45} (h : sumB p L = true) : ∀ z ∈ L.map bytesT, 43 ∉ z := by
  intro z hz
  obtain ⟨y, hy, rfl⟩ := List.mem_map.1 hz
  obtain ⟨h1, h2, h3⟩ := (terms_ok h).2 y hy
  exact term_free h1 h2 h3
theorem split_text {p : Int} {L : List S45} (h : sumB p L = true) (hn : L ≠ []) : splitOn 43 (sumTextB L).data.toList = L.map bytesT := by
  rw [text_join hn]
  have hf := free_all h
  cases L with
  | nil => exact absurd rfl hn
  | cons y r =>
    rw [List.map_cons] at hf ⊢
    rw [Lib.join_cons]
    exact splitOn_join _ _ hf
theorem specL_terms (p : Int) : ∀ (L acc : List S45), (∀ y ∈ L, isWordB y.f0 = true ∧ 1 ≤ y.f1 ∧ y.f1 ≤ 12) → specL p (L.map bytesT) acc = (acc ++ L, sumB p (acc ++ L))
  | [], acc, _ => by rw [List.map_nil, specL, List.append_nil]
  | y :: L, acc, h => by
    obtain ⟨h1, h2, h3⟩ := h y List.mem_cons_self
    have e : termOf (bytesT y) = some y := termOf_term h1 h2 h3
    rw [List.map_cons, specL, e]
    show specL p (L.map bytesT) (acc ++ [y]) = _
    rw [specL_terms p L (acc ++ [y]) (fun z hz => h z (List.mem_cons_of_mem _ hz)), List.append_assoc]
    rfl
theorem specL_true (p : Int) : ∀ (ps : List (List UInt8)) (acc L : List S45), specL p ps acc = (L, true) → sumB p L = true ∧ ∃ M, L = acc ++ M ∧ ps.map termOf = M.map some
  | [], acc, L, h => by
    rw [specL] at h
    obtain ⟨rfl, h2⟩ := Prod.mk.inj h
    exact ⟨h2, [], (List.append_nil _).symm, rfl⟩
  | x :: ps, acc, L, h => by
    rw [specL] at h
    cases e : termOf x with
    | none =>
      rw [e] at h
      cases (Prod.mk.inj h).2
    | some y =>
      rw [e] at h
      obtain ⟨h1, M, h2, h3⟩ := specL_true p ps (acc ++ [y]) L h
      refine ⟨h1, y :: M, by rw [h2, List.append_assoc]; rfl, ?_⟩
      rw [List.map_cons, List.map_cons, e, h3]
theorem terms_text : ∀ (ps : List (List UInt8)) (M : List S45), ps.map termOf = M.map some → (∀ y ∈ M, 1 ≤ y.f1 ∧ y.f1 ≤ 12) → ps = M.map bytesT
  | [], M, h, _ => by
    cases M with
    | nil => rfl
    | cons y M => cases h
  | x :: ps, M, h, hy => by
    cases M with
    | nil => cases h
    | cons y M =>
      rw [List.map_cons, List.map_cons] at h
      obtain ⟨h1, h2⟩ := List.cons.inj h
      have q := hy y List.mem_cons_self
      rw [List.map_cons, ← terms_text ps M h2 (fun z hz => hy z (List.mem_cons_of_mem _ hz)), text_of_term h1 q.1 q.2]
      rfl
theorem map_mkS (q : List ByteArray) : (q.map fun s => s.data.toList).map mkS = q := by
  rw [List.map_map]
  have : ∀ q : List ByteArray, q.map (mkS ∘ fun s => s.data.toList) = q := by
    intro q
    induction q with
    | nil => rfl
    | cons s q ih => rw [List.map_cons, ih]; exact congrArg (· :: q) (mkS_of s)
  exact this q
def piecesB (t : ByteArray) : List ByteArray := Lib.splitB (⟨#[43]⟩ : ByteArray) 0 (min 201 (t.size + 1) - 1) t
theorem pieces_text {p : Int} {L : List S45} (h : sumB p L = true) (hn : L ≠ []) : piecesB (sumTextB L) = L.map termB := by
  have hl := (terms_ok h).1
  have hs := split_text h hn
  have hlen : L.length ≤ (sumTextB L).size + 1 := by
    have := splitOn_length 43 (sumTextB L).data.toList
    rw [hs, List.length_map, ← Lib.size_eq] at this
    exact this
  have hk : Lib.splitK [43] 0 (min 201 ((sumTextB L).size + 1) - 1) (sumTextB L).data.toList = L.map bytesT := by
    have hf := free_all h
    generalize hm : min 201 ((sumTextB L).size + 1) - 1 = m
    have hm2 : L.length ≤ m + 1 := by omega
    rw [text_join hn]
    cases L with
    | nil => exact absurd rfl hn
    | cons y r =>
      rw [List.map_cons] at hf ⊢
      rw [Lib.join_cons]
      exact splitK_join _ _ m (by rw [List.length_map]; rw [List.length_cons] at hm2; omega) hf
  have hd := Lib.splitB_data (⟨#[43]⟩ : ByteArray) 0 (min 201 ((sumTextB L).size + 1) - 1) (sumTextB L)
  have hd2 : (piecesB (sumTextB L)).map (fun s => s.data.toList) = L.map bytesT := hd.trans hk
  have e2 : L.map bytesT = (L.map termB).map fun s => s.data.toList := by rw [List.map_map]; rfl
  rw [← map_mkS (piecesB (sumTextB L)), hd2, e2, map_mkS]
theorem pieces_terms {L : List S45} (h : ∀ y ∈ L, isWordB y.f0 = true ∧ 1 ≤ y.f1 ∧ y.f1 ≤ 12) : (L.map termB).map implT = L := by
  rw [List.map_map]
  induction L with
  | nil => rfl
  | cons y L ih =>
    obtain ⟨h1, h2, h3⟩ := h y List.mem_cons_self
    rw [List.map_cons, ih (fun z hz => h z (List.mem_cons_of_mem _ hz))]
    exact congrArg (· :: L) (implT_term h1 h2 h3)
theorem toList_eq {a b : ByteArray} (h : a.toList = b.toList) : a = b := by
  rw [ByteArray.toList_eq, ByteArray.toList_eq] at h
  rw [← mkS_of a, ← mkS_of b, h]
theorem key (p : Int) (t : ByteArray) (hn : t.toList ≠ ([48] : List UInt8)) : implR p t ((piecesB t).map implT) = if (specR p t).2 = true then (p, (specR p t).1, 0) else (0, [], 6) := by
  have hs : specR p t = specL p (splitOn 43 t.data.toList) [] := by unfold specR; rw [if_neg hn]
  rw [hs]
  cases e : specL p (splitOn 43 t.data.toList) [] with
  | mk L b =>
    cases b with
    | true =>
      obtain ⟨h1, M, h2, h3⟩ := specL_true p _ _ _ e
      rw [List.nil_append] at h2
      subst h2
      have ok := (terms_ok h1).2
      have h4 := terms_text _ L h3 (fun y hy => (ok y hy).2)
      have hne : L ≠ [] := by
        intro e0
        rw [e0] at h4
        exact splitOn_ne _ _ h4
      have ht : t = sumTextB L := by
        have h5 := join_splitOn 43 t.data.toList
        rw [h4, ← text_join hne] at h5
        rw [← mkS_of t, ← h5, mkS_of]
      rw [if_pos rfl]
      subst ht
      rw [pieces_text h1 hne, pieces_terms ok]
      unfold implR
      rw [if_pos h1, if_pos rfl]
    | false =>
      rw [if_neg (by simp)]
      unfold implR
      split
      · rename_i h1
        split
        · rename_i h2
          exfalso
          generalize (piecesB t).map implT = L' at h1 h2
          have ht := toList_eq h2
          have hne : L' ≠ [] := by
            intro e0
            rw [e0] at h2
            exact hn (h2.symm.trans (by rw [ByteArray.toList_eq]; rfl))
          rw [← ht, split_text h1 hne, specL_terms p L' [] (terms_ok h1).2, List.nil_append, h1] at e
          cases (Prod.mk.inj e).2
        · rfl
      · rfl
def ParseR (p : Int) (t : ByteArray) : Int × List S45 × Int := if primeB p = true then (if (specR p t).2 = true then (p, (specR p t).1, 0) else (0, [], 6)) else (0, [], 2)
theorem ev_spec_ParseSum (p : Int) (t : ByteArray) (ht : t.size ≤ 1048576) : Ev (fun n => spec_ParseSum.f n p t) (ParseR p t) := by
  unfold spec_ParseSum.f ParseR
  refine Ev.bind (Ev.const (prime_spec p)) ?_
  by_cases c : primeB p = true
  · rw [if_pos c]
    refine Ev.ite_pos c (Ev.bind (ev_spec_l03Read p t ht) ?_)
    by_cases h : (specR p t).2 = true
    · refine Ev.ite_pos h ?_
      rw [if_pos h]
      exact Ev.now _
    · refine Ev.ite_neg h ?_
      rw [if_neg h]
      exact Ev.now _
  · rw [if_neg c]
    exact Ev.ite_neg c (Ev.now _)
theorem splitB_size (sep : ByteArray) : ∀ (k : Nat) (s : ByteArray), ∀ x ∈ Lib.splitB sep 0 k s, x.size ≤ s.size
  | 0, s, x, h => by rw [List.mem_singleton.1 h]; exact Nat.le_refl _
  | k + 1, s, x, h => by
    unfold Lib.splitB at h
    split at h
    · rw [List.mem_singleton.1 h]; exact Nat.le_refl _
    · rcases List.mem_cons.1 h with rfl | h
      · rw [ByteArray.size_extract]; omega
      · have := splitB_size sep k _ x h
        rw [ByteArray.size_extract] at this
        omega
theorem splitB_ne (sep : ByteArray) (k : Nat) (s : ByteArray) : 0 < (Lib.splitB sep 0 k s).length := by
  cases k with
  | zero => exact Nat.zero_lt_one
  | succ k =>
    unfold Lib.splitB
    split
    · exact Nat.zero_lt_one
    · rw [List.length_cons]; omega
theorem ev_impl_ParseSum (p : Int) (t : ByteArray) (ht : t.size ≤ 1048576) : Ev (fun n => impl_ParseSum.f n p t) (ParseR p t) := by
  unfold impl_ParseSum.f ParseR
  have P : Ev (fun n => impl_isPrime.f n p) (primeB p) := by
    unfold impl_isPrime.f primeB
    exact Ev.bind (ev_slices_ContainsI _ p (by decide)) (Ev.now _)
  refine Ev.bind P ?_
  by_cases c : primeB p = true
  · rw [if_pos c]
    have hs : strings_SplitN.f t (⟨#[43]⟩ : ByteArray) 201 = some (piecesB t) := by
      unfold strings_SplitN.f
      rw [if_pos ⟨by omega, by decide, by decide, by decide⟩]
      rfl
    have hl : (piecesB t).length ≤ 201 := by
      have := Lib.splitB_length_le (⟨#[43]⟩ : ByteArray) 0 (min 201 (t.size + 1) - 1) t
      unfold piecesB
      omega
    have h0 : 0 < (piecesB t).length := splitB_ne _ _ _
    have hz : ∀ x ∈ piecesB t, x.size < 4294967281 := fun x hx => by have := splitB_size _ _ _ x hx; omega
    refine Ev.ite_pos c (Ev.bind (Ev.const hs) ?_)
    by_cases hn : t.toList = ([48] : List UInt8)
    · have e : (if (specR p t).2 = true then (p, (specR p t).1, 0) else (0, [], 6)) = implR p t [] := by
        have h1 : specR p t = ([], true) := by unfold specR; rw [if_pos hn]
        have h2 : sumB p [] = true := by unfold sumB; rw [c]; rfl
        have h3 : (sumTextB []).toList = t.toList := by rw [hn, ByteArray.toList_eq]; rfl
        unfold implR
        rw [h1, if_pos rfl, if_pos h2, if_pos h3]
      rw [e]
      refine Ev.step (fun n => by rw [impl_ParseSum.l0]) (Ev.ite_pos (by omega) (Ev.ite_pos (by omega) (Ev.ite_pos (by omega) (Ev.ite_pos hn ?_))))
      exact ev_tell p t [] (Nat.zero_le _) (fun y hy => (List.not_mem_nil hy).elim)
    · rw [← key p t hn]
      exact ev_impl_loop p t hn (piecesB t) hl hz _ 0 (Nat.zero_le _) rfl
  · rw [if_neg c]
    exact Ev.ite_neg c (Ev.now _)
theorem ParseR_le (p : Int) (t : ByteArray) : (ParseR p t).2.1.length ≤ 200 ∧ ∀ x ∈ (ParseR p t).2.1, x.f0.length ≤ 12 := by
  have hz : ([] : List S45).length ≤ 200 ∧ ∀ x ∈ ([] : List S45), x.f0.length ≤ 12 := ⟨Nat.zero_le _, fun y hy => (List.not_mem_nil hy).elim⟩
  unfold ParseR
  split
  · split
    · rename_i h
      show (specR p t).1.length ≤ 200 ∧ ∀ x ∈ (specR p t).1, x.f0.length ≤ 12
      unfold specR at h ⊢
      split
      · exact hz
      · rename_i hn
        rw [if_neg hn] at h
        have h1 := (specL_true p _ _ (specL p (splitOn 43 t.data.toList) []).1 (Prod.ext rfl h)).1
        exact ⟨(terms_ok h1).1, fun x hx => word_length ((terms_ok h1).2 x hx).1⟩
    · exact hz
  · exact hz
theorem FnExactParseSum : laws_FnExactParseSum.Pure := by
  intro i0 t1 w0 ht
  obtain ⟨b1, b2⟩ := ParseR_le i0 t1
  have h2' := ev_spec_ParseSum i0 t1 ht
  have h3' := ev_impl_ParseSum i0 t1 ht
  generalize ParseR i0 t1 = R at b1 b2 h2' h3'
  obtain ⟨g0, g1, c⟩ := R
  have b1 : g1.length ≤ 200 := b1
  have b2 : ∀ x ∈ g1, x.f0.length ≤ 12 := b2
  have b3 : sizeT g1 ≤ g1.length * (12 + 1) := sizeT_le b2
  obtain ⟨K2, h2⟩ := h2'
  obtain ⟨K3, h3⟩ := h3'
  obtain ⟨K4, h4⟩ := ev_eqSum_same g0 g1 (by omega) (fun x hx => by have := b2 x hx; omega)
  obtain ⟨K7, h7⟩ := ev_markSum g1 1 (by omega) (by omega) (by omega)
  obtain ⟨K8, h8⟩ := ev_heldSum g0 g1 1 (by omega) (by omega) (by omega)
  exact ⟨max K2 (max K3 (max K4 (max K7 K8))), c, _, g0, g1, _, h2 _ (by omega), h3 _ (by omega), h4 _ (by omega), h7 _ (by omega), h8 _ (by omega), by omega⟩
end Go.Proofs.YtflpdjmdkdgijaaGreatDoor.Pure
