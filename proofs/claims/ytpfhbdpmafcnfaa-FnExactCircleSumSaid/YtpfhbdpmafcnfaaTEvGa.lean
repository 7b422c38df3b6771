/-
  Plain laws of sums that are gathered: the reference's put of a value at a word is the program's; marks of a result that is a sum.
-/
import Derived.Test.YtpfhbdpmafcnfaaTEvA
import Derived.Test.YtpfhbdpmafcnfaaTEvE
import Derived.Test.YtpfhbdpmafcnfaaTEvW
import Derived.Test.YtpfhbdpmafcnfaaTEvUe
import Derived.Test.YtpfhbdpmafcnfaaTPlainQ
import Derived.Test.YtpfhbdpmafcnfaaTGgZ
import Derived.Test.YtpfhbdpmafcnfaaTGgP
import Derived.Test.YtpfhbdpmafcnfaaTGgR
import Derived.Test.YtpfhbdpmafcnfaaTEvI
import Derived.Test.YtpfhbdpmafcnfaaTGgQ
namespace Go.Proofs.Ytpfhbdpmafcnfaa.Pure
open Go.RowKit Go.Proofs.Ytpfhbdpmafcnfaa.G Go.Proofs.Ytpfhbdpmafcnfaa.Plain Go.Proofs.YtpfhbdpmafcnfaaW.PrintWords Go.Proofs.YtpfhbdpmafcnfaaW.PrintLast
set_option linter.unusedVariables false
set_option linter.unusedSimpArgs false
theorem own_fT {l : List Int} (h : l.length < 17592186044416) : spec_l01Own.f l = some l := by
  unfold spec_l01Own.f
  rw [Option.bind_some, if_pos (by simpa using h), List.nil_append]
theorem befB_W (a b : List Int) : befB a b = befW a b := rfl
def putV (l : List Int) (w : Int) : List S89 → List S89
  | [] => [⟨l, w⟩]
  | x :: xs => if x.f0 = l then ⟨l, w⟩ :: xs else if befW l x.f0 = true then ⟨l, w⟩ :: x :: xs else x :: putV l w xs
theorem putZ_V (p v : Int) (l : List Int) : ∀ {L : List S89}, SortedW L → putZ p L l v = putV l ((valA L l + v) % p) L
  | [], _ => by simp [putZ, putV, valA]
  | x :: xs, hs => by
    have h1 := List.pairwise_cons.1 hs
    unfold putZ putV valA
    by_cases e : x.f0 = l
    · rw [if_pos e, if_pos e, if_pos e]
    · rw [if_neg e, if_neg e, if_neg e]
      by_cases b : befW l x.f0 = true
      · rw [if_pos b, if_pos b, valA_none (fun z hz e2 => befW_ne (befW_trans b (h1.1 z hz)) e2.symm), Int.zero_add]
      · rw [if_neg b, if_neg b, putZ_V p v l h1.2]
theorem nzT_cons (x : S89) (L : List S89) : nzT (x :: L) = if x.f1 = 0 then nzT L else x :: nzT L := by
  unfold nzT
  rw [List.filter_cons]
  by_cases e : x.f1 = 0
  · rw [if_neg (by simp [e]), if_pos e]
  · rw [if_pos (by simp [e]), if_neg e]
theorem nzT_sub {L : List S89} {x : S89} (h : x ∈ nzT L) : x ∈ L := (List.mem_filter.1 h).1
theorem nzT_length (L : List S89) : (nzT L).length ≤ L.length := List.length_filter_le _ _
theorem valA_nz (l : List Int) : ∀ {L : List S89}, SortedW L → valA (nzT L) l = valA L l
  | [], _ => rfl
  | x :: xs, hs => by
    have h1 := List.pairwise_cons.1 hs
    have ih := valA_nz l h1.2
    rw [nzT_cons]
    by_cases z : x.f1 = 0
    · rw [if_pos z, ih]
      unfold valA
      by_cases e : x.f0 = l
      · rw [if_pos e, z]
        have : valA xs l = 0 := valA_none (fun y hy e2 => befW_ne (h1.1 y hy) (e.trans e2.symm))
        cases xs with
        | nil => rfl
        | cons y ys => exact this
      · rw [if_neg e]
        cases xs with
        | nil => rfl
        | cons y ys => rfl
    · rw [if_neg z]
      unfold valA
      rw [ih]
def insT (l : List Int) (w : Int) : List S89 → Bool → List S89
  | [], done => if done = true then [] else [⟨l, w⟩]
  | x :: xs, done => (if (!done && befW l x.f0) = true then [⟨l, w⟩] else []) ++ ((if x.f0 = l then [] else [x]) ++ insT l w xs (done || befW l x.f0))
theorem insT_done (l : List Int) (w : Int) : ∀ {M : List S89}, (∀ x ∈ M, x.f0 ≠ l) → insT l w M true = M
  | [], _ => rfl
  | x :: M, h => by
    unfold insT
    rw [if_neg (by simp), if_neg (h x List.mem_cons_self), Bool.true_or, insT_done l w (fun y hy => h y (List.mem_cons_of_mem _ hy))]
    rfl
theorem insT_ahead (l : List Int) (w : Int) {M : List S89} (h : ∀ x ∈ M, befW l x.f0 = true) : insT l w M false = ⟨l, w⟩ :: M := by
  cases M with
  | nil => rfl
  | cons x M =>
    have hx := h x List.mem_cons_self
    unfold insT
    rw [hx, if_pos (by simp), if_neg (fun e => befW_ne hx e.symm), Bool.false_or, insT_done l w (fun y hy e => befW_ne (h y (List.mem_cons_of_mem _ hy)) e.symm)]
    rfl
theorem insT_put (l : List Int) (w : Int) : ∀ {L : List S89}, SortedW L → insT l w (nzT L) (w == 0) = nzT (putV l w L)
  | [], _ => by
    unfold putV
    rw [nzT_cons]
    by_cases e : w = 0
    · rw [if_pos e]; simp [nzT, insT, e]
    · rw [if_neg e]; simp [nzT, insT, e]
  | x :: xs, hs => by
    have h1 := List.pairwise_cons.1 hs
    have ih := insT_put l w h1.2
    unfold putV
    by_cases e : x.f0 = l
    · rw [if_pos e, nzT_cons, nzT_cons]
      have ha : ∀ y ∈ nzT xs, befW l y.f0 = true := fun y hy => by rw [← e]; exact h1.1 y (nzT_sub hy)
      have key : insT l w (nzT xs) (w == 0) = if w = 0 then nzT xs else ⟨l, w⟩ :: nzT xs := by
        by_cases z : w = 0
        · rw [if_pos z, show (w == 0) = true by simp [z]]
          exact insT_done l w (fun y hy e2 => befW_ne (ha y hy) e2.symm)
        · rw [if_neg z, show (w == 0) = false by simp [z]]
          exact insT_ahead l w ha
      by_cases z : x.f1 = 0
      · rw [if_pos z, key]
      · rw [if_neg z]
        unfold insT
        have hb : befW l x.f0 = false := by rw [e]; exact befW_self l
        rw [hb, if_neg (by simp), if_pos e, Bool.or_false, List.nil_append, List.nil_append, key]
    · rw [if_neg e]
      by_cases b : befW l x.f0 = true
      · rw [if_pos b]
        have ha : ∀ y ∈ nzT (x :: xs), befW l y.f0 = true := fun y hy => by
          rcases List.mem_cons.1 (nzT_sub hy) with rfl | hy
          · exact b
          · exact befW_trans b (h1.1 y hy)
        rw [nzT_cons ⟨l, w⟩]
        by_cases z : w = 0
        · rw [if_pos z, show (w == 0) = true by simp [z]]
          exact insT_done l w (fun y hy e2 => befW_ne (ha y hy) e2.symm)
        · rw [if_neg z, show (w == 0) = false by simp [z]]
          exact insT_ahead l w ha
      · rw [if_neg b, nzT_cons, nzT_cons x]
        by_cases z : x.f1 = 0
        · rw [if_pos z, if_pos z, ih]
        · rw [if_neg z, if_neg z]
          have hb : befW l x.f0 = false := by simpa using b
          rw [insT, hb, if_neg (by simp), if_neg e, Bool.or_false, ih]
          rfl
theorem mod_f {p x : Int} (hp : 0 < p) (hq : p ≤ 1000) : spec_l03Mod.f p x = some (x % p) := by
  have h := rest_f (x := x) hp hq
  unfold impl_rest.f at h
  unfold spec_l03Mod.f
  exact h
theorem at_loopT (p : Int) (l : List Int) : ∀ (R pre : List S89), pre.length + R.length ≤ 1048576 → (∀ x ∈ R, x.f0.length ≤ 1048576) → Ev (fun n => spec_l03At.l0 n l (pre.length : Int) p (pre ++ R)) (valA R l)
  | [], pre, hl, _ => by
    refine Ev.step (fun n => by rw [spec_l03At.l0]) ?_
    exact Ev.ite_neg (by simp) (Ev.now _)
  | x :: R, pre, hl, hx => by
    rw [List.length_cons] at hl
    have hr : rd_T89 (pre ++ x :: R) (pre.length : Int) = x := by
      rw [rdJ (by simp)]; simp
    refine Ev.step (fun n => by rw [spec_l03At.l0]) ?_
    refine Ev.ite_pos (by simp; omega) (Ev.ite_pos (by omega) ?_)
    rw [hr]
    refine Ev.bind (ev_spec_l01Same _ _ (by have := hx x List.mem_cons_self; omega)) ?_
    unfold valA
    by_cases e : x.f0 = l
    · rw [if_pos e]
      exact Ev.ite_pos (decide_eq_true e) (Ev.now _)
    · rw [if_neg e, wrap_of (by omega) (by omega)]
      have h := at_loopT p l R (pre ++ [x]) (by simp; omega) (fun y hy => hx y (List.mem_cons_of_mem _ hy))
      have e2 : (((pre ++ [x]).length : Nat) : Int) = (pre.length : Int) + 1 := by simp
      rw [e2, List.append_assoc] at h
      exact Ev.ite_neg (by simpa using e) h
theorem put_loopT (p : Int) (l : List Int) (w : Int) (hw : l.length ≤ 1048576) : ∀ (R pre acc : List S89) (d : Bool), pre.length + R.length ≤ 1048576 → acc.length + 2 * R.length ≤ 3000000 → (∀ x ∈ R, x.f0.length ≤ 1048576) →
    Ev (fun n => spec_l03Put.l0 n l w d (pre.length : Int) p (pre ++ R) p acc) (p, acc ++ insT l w R d)
  | [], pre, acc, d, hl, ha, _ => by
    refine Ev.step (fun n => by rw [spec_l03Put.l0]) ?_
    refine Ev.ite_neg (by simp) ?_
    unfold insT
    cases d
    · refine Ev.ite_neg (by simp) (Ev.bind (Ev.const (own_fT (by omega))) (Ev.ite_pos (by simp at ha; omega) ?_))
      exact Ev.now _
    · refine Ev.ite_pos rfl (Ev.const ?_)
      simp
  | x :: R, pre, acc, d, hl, ha, hx => by
    rw [List.length_cons] at hl ha
    have hr : rd_T89 (pre ++ x :: R) (pre.length : Int) = x := by
      rw [rdJ (by simp)]; simp
    have hm := hx x List.mem_cons_self
    have step : ∀ (acc2 : List S89) (d2 : Bool), acc2.length + 2 * R.length ≤ 2999999 → Ev (fun n => spec_l03Put.j2 n l w d2 (pre.length : Int) p (pre ++ x :: R) p acc2 x.f0 x.f1) (p, acc2 ++ ((if x.f0 = l then [] else [x]) ++ insT l w R d2)) := by
      intro acc2 d2 hl2
      refine Ev.step (fun n => by rw [spec_l03Put.j2]) ?_
      refine Ev.bind (ev_spec_l01Same _ _ (by omega)) ?_
      rw [wrap_of (by omega) (by omega)]
      by_cases e : x.f0 = l
      · have h := put_loopT p l w hw R (pre ++ [x]) acc2 d2 (by simp; omega) (by omega) (fun y hy => hx y (List.mem_cons_of_mem _ hy))
        have e2 : (((pre ++ [x]).length : Nat) : Int) = (pre.length : Int) + 1 := by simp
        rw [e2, List.append_assoc] at h
        rw [if_pos e]
        exact Ev.ite_pos (decide_eq_true e) h
      · have h := put_loopT p l w hw R (pre ++ [x]) (acc2 ++ [x]) d2 (by simp; omega) (by simp; omega) (fun y hy => hx y (List.mem_cons_of_mem _ hy))
        have e2 : (((pre ++ [x]).length : Nat) : Int) = (pre.length : Int) + 1 := by simp
        rw [e2, List.append_assoc] at h
        rw [if_neg e]
        refine Ev.ite_neg (by simpa using e) (Ev.bind (Ev.const (own_fT (by omega))) (Ev.ite_pos (by omega) ?_))
        rw [← List.append_assoc]
        exact h
    have step1 : ∀ (b : Bool), Ev (fun n => spec_l03Put.j1 n l w d (pre.length : Int) b p (pre ++ x :: R) p acc x.f0 x.f1) (p, acc ++ ((if b = true then [⟨l, w⟩] else []) ++ ((if x.f0 = l then [] else [x]) ++ insT l w R (d || b)))) := by
      intro b
      refine Ev.step (fun n => by rw [spec_l03Put.j1]) ?_
      cases b
      · have h := step acc d (by omega)
        rw [if_neg (by simp), Bool.or_false]
        exact Ev.ite_neg (by simp) h
      · have h := step (acc ++ [⟨l, w⟩]) true (by simp; omega)
        rw [if_pos rfl, Bool.or_true, ← List.append_assoc]
        exact Ev.ite_pos rfl (Ev.bind (Ev.const (own_fT (by omega))) (Ev.ite_pos (by omega) h))
    refine Ev.step (fun n => by rw [spec_l03Put.l0]) ?_
    refine Ev.ite_pos (by simp; omega) (Ev.ite_pos (by omega) ?_)
    rw [hr]
    unfold insT
    cases d
    · refine Ev.ite_neg (by simp) (Ev.bind (ev_before _ _ hw hm) ?_)
      rw [befB_W]
      have h := step1 (befW l x.f0)
      simpa using h
    · have h := step1 false
      refine Ev.ite_pos rfl ?_
      simpa using h
theorem ev_putT (p : Int) (l : List Int) (v : Int) {L : List S89} (hp : 0 < p) (hq : p ≤ 1000) (hv : -1000000 ≤ v ∧ v ≤ 1000000) (hl : l.length ≤ 1048576) (hL : L.length ≤ 1000000) (hs : SortedW L) (hx : ∀ x ∈ L, x.f0.length ≤ 1048576) (hb : ∀ x ∈ L, 0 ≤ x.f1 ∧ x.f1 < p) :
    Ev (fun n => spec_l03Put.f n p (nzT L) l v) (p, nzT (putZ p L l v)) := by
  have hn := nzT_length L
  have hb2 := valA_bound (l := l) hp hb
  have hx2 : ∀ x ∈ nzT L, x.f0.length ≤ 1048576 := fun x h => hx x (nzT_sub h)
  have h1 := at_loopT p l (nzT L) [] (by simp; omega) hx2
  rw [valA_nz l hs] at h1
  have e1 : wrap64 (v + valA L l) = valA L l + v := by rw [wrap_of (by omega) (by omega)]; omega
  have h2 := put_loopT p l ((valA L l + v) % p) hl (nzT L) [] [] ((valA L l + v) % p == 0) (by simp; omega) (by simp; omega) hx2
  rw [insT_put l _ hs, ← putZ_V p v l hs] at h2
  unfold spec_l03Put.f spec_l03Empty.f
  refine Ev.bind (Ev.now _) (Ev.bind h1 ?_)
  rw [e1, mod_f hp hq]
  exact Ev.bind (Ev.now _) h2
theorem word_ok {l : List Int} (h : isWordB l = true) : okW l := by
  have h1 := word_length h
  refine ⟨by omega, fun x hx => ?_⟩
  have h2 := word_mem h hx
  omega
theorem prime_pos {p : Int} (h : primeB p = true) : 0 < p ∧ p ≤ 13 := by
  unfold primeB at h
  have h := of_decide_eq_true h
  simp at h
  omega
theorem ev_eqSumT (a : Int) (ys : List S89) (hl : ys.length ≤ 1048576) (hx : ∀ x ∈ ys, x.f0.length ≤ 1048576) : Ev (fun n => laws_eqSum.f n a ys a ys) true := ev_eqSum_same a ys hl hx
def sizeT (R : List S89) : Nat := (R.map fun x => x.f0.length + 1).sum
theorem sizeT_cons (r : S89) (R : List S89) : sizeT (r :: R) = r.f0.length + 1 + sizeT R := by simp [sizeT]
def marksT (j : Int) : List S89 → List S89
  | [] => []
  | r :: R => ⟨marks j r.f0.length, j + r.f0.length⟩ :: marksT (j + r.f0.length + 1) R
theorem set_midT (pre : List S89) (r q : S89) (R : List S89) : (pre ++ r :: R).set pre.length q = (pre ++ [q]) ++ R := by
  rw [List.set_append]
  simp
theorem markT_loop : ∀ (R pre : List S89) (x : Int), 0 ≤ x → x + sizeT R ≤ 4611686018427387904 → pre.length + R.length ≤ 1048576 → Ev (fun n => laws_markTermS.l0 n (pre ++ R) x (pre.length : Int)) (x + sizeT R, pre ++ marksT x R)
  | [], pre, x, h0, hx, hl => by
    refine Ev.step (fun n => by rw [laws_markTermS.l0]) ?_
    refine Ev.ite_neg (by simp) (Ev.const ?_)
    simp [sizeT, marksT]
  | r :: R, pre, x, h0, hx, hl => by
    rw [List.length_cons] at hl
    rw [sizeT_cons] at hx
    refine Ev.step (fun n => by rw [laws_markTermS.l0]) ?_
    refine Ev.ite_pos (by simp; omega) (Ev.ite_pos (by omega) ?_)
    have e0 : (pre ++ r :: R).getD (pre.length : Int).toNat z89 = r := by
      rw [Int.toNat_natCast, List.getD_eq_getElem?_getD, List.getElem?_append_right (Nat.le_refl _)]; simp
    rw [e0, wrap_of (x := (pre.length : Int) + 1) (by omega) (by omega), Int.toNat_natCast]
    refine Ev.bind (ev_markInt64S r.f0 x h0 (by omega)) ?_
    rw [set_midT, wrap_of (x := x + (r.f0.length : Int) + 1) (by omega) (by omega)]
    have h := markT_loop R (pre ++ [⟨marks x r.f0.length, x + r.f0.length⟩]) (x + r.f0.length + 1) (by omega) (by omega) (by simp; omega)
    have e : (((pre ++ [(⟨marks x r.f0.length, x + r.f0.length⟩ : S89)]).length : Nat) : Int) = (pre.length : Int) + 1 := by simp
    rw [e] at h
    rw [sizeT_cons, marksT]
    have e2 : x + ((r.f0.length + 1 + sizeT R : Nat) : Int) = x + r.f0.length + 1 + sizeT R := by omega
    rw [e2]
    simpa using h
theorem ev_markSum (R : List S89) (x : Int) (h0 : 0 ≤ x) (hx : x + sizeT R ≤ 4611686018427387904) (hl : R.length ≤ 1048576) : Ev (fun n => laws_markSum.f n R x) (x + sizeT R, marksT x R) := by
  unfold laws_markSum.f laws_markTermS.f
  have h := markT_loop R [] x h0 hx (by simpa using hl)
  simpa using h
theorem heldT_loop : ∀ (R pre : List S89) (x : Int), 0 ≤ x → x + sizeT R ≤ 4611686018427387904 → pre.length + R.length ≤ 1048576 → Ev (fun n => laws_heldTermS.l0 n (pre ++ marksT x R) x (pre.length : Int)) (x + sizeT R)
  | [], pre, x, h0, hx, hl => by
    refine Ev.step (fun n => by rw [laws_heldTermS.l0]) ?_
    refine Ev.ite_neg (by simp [marksT]) (Ev.const ?_)
    simp [sizeT]
  | r :: R, pre, x, h0, hx, hl => by
    rw [List.length_cons] at hl
    rw [sizeT_cons] at hx
    rw [marksT]
    have hr : rd_T89 (pre ++ ⟨marks x r.f0.length, x + r.f0.length⟩ :: marksT (x + r.f0.length + 1) R) (pre.length : Int) = ⟨marks x r.f0.length, x + r.f0.length⟩ := by
      rw [rdJ (by simp)]; simp
    refine Ev.step (fun n => by rw [laws_heldTermS.l0]) ?_
    refine Ev.ite_pos (by simp; omega) (Ev.ite_pos (by omega) ?_)
    rw [hr, wrap_of (x := (pre.length : Int) + 1) (by omega) (by omega)]
    refine Ev.bind (ev_heldInt64S r.f0.length x h0 (by omega)) (Ev.ite_neg (by omega) (Ev.ite_pos rfl ?_))
    rw [wrap_of (x := x + (r.f0.length : Int) + 1) (by omega) (by omega)]
    have h := heldT_loop R (pre ++ [⟨marks x r.f0.length, x + r.f0.length⟩]) (x + r.f0.length + 1) (by omega) (by omega) (by simp; omega)
    have e : (((pre ++ [(⟨marks x r.f0.length, x + r.f0.length⟩ : S89)]).length : Nat) : Int) = (pre.length : Int) + 1 := by simp
    rw [e] at h
    rw [sizeT_cons]
    have e2 : x + ((r.f0.length + 1 + sizeT R : Nat) : Int) = x + r.f0.length + 1 + sizeT R := by omega
    rw [e2]
    simpa using h
theorem ev_heldSum (p : Int) (R : List S89) (x : Int) (h0 : 0 ≤ x) (hx : x + sizeT R ≤ 4611686018427387904) (hl : R.length ≤ 1048576) : Ev (fun n => laws_heldSum.f n p (marksT x R) x) (x + sizeT R) := by
  unfold laws_heldSum.f laws_heldTermS.f
  have h := heldT_loop R [] x h0 hx (by simpa using hl)
  refine Ev.bind (by simpa using h) (Ev.ite_neg (by omega) (Ev.now _))
theorem sizeT_le {R : List S89} {m : Nat} (hr : ∀ r ∈ R, r.f0.length ≤ m) : sizeT R ≤ R.length * (m + 1) := by
  induction R with
  | nil => simp [sizeT]
  | cons r R ih =>
    rw [sizeT_cons, List.length_cons, Nat.succ_mul]
    have h1 := hr r List.mem_cons_self
    have h2 := ih (fun q hq => hr q (List.mem_cons_of_mem _ hq))
    omega
end Go.Proofs.Ytpfhbdpmafcnfaa.Pure
