-- Written by the session's program mk.py (which runs the kit's print.py over functions and over contracts given by hand).
import Derived.Test.YtpfhbdpmafcnfaaTG0
import Derived.Test.YtpfhbdpmafcnfaaTG143
import Derived.Test.YtpfhbdpmafcnfaaTGgB
import Derived.Test.YtpfhbdpmafcnfaaTGgJ
import Derived.Test.YtpfhbdpmafcnfaaTGgR
import Derived.Test.YtpfhbdpmafcnfaaTGgV
import Derived.Test.YtpfhbdpmafcnfaaTPlainM
import Derived.Test.YtpfhbdpmafcnfaaTPlainN
import Derived.Test.YtpfhbdpmafcnfaaTPlainQ
import Derived.Test.YtpfhbdpmafcnfaaTPlainY
import Derived.Test.YtpfhbdpmafcnfaaTEvUe
import Derived.Shelf.SlSortCmp.NoneTotal
namespace Go.Proofs.Ytpfhbdpmafcnfaa.G
open Go.RowKit Go.Maps Go.Proofs.YtpfhbdpmafcnfaaW.PrintWords Go.Proofs.YtpfhbdpmafcnfaaW.PrintLast Go.Proofs.YtpfhbdpmafcnfaaW.PrintMore
attribute [local go_sem] max2_int min2_int max_two min_two max_three min_three max_four min_four   -- for this text's walks alone
set_option linter.unusedVariables false
set_option linter.unusedSimpArgs false
open Go.Proofs.Ytpfhbdpmafcnfaa.Plain
-- plain part of the gather's state (to be pasted into a hand text)
def valA : List S89 → List Int → Int
 | [], _ => 0
 | x :: xs, l => if x.f0 = l then x.f1 else valA xs l
def putZ (p : Int) : List S89 → List Int → Int → List S89
 | [], l, v => [⟨l, v % p⟩]
 | x :: xs, l, v => if x.f0 = l then ⟨l, (x.f1 + v) % p⟩ :: xs else if befW l x.f0 = true then ⟨l, v % p⟩ :: x :: xs else x :: putZ p xs l v
def SortedW (L : List S89) : Prop := L.Pairwise fun x y => befW x.f0 y.f0 = true
theorem valA_none {L : List S89} {l : List Int} (h : ∀ x ∈ L, x.f0 ≠ l) : valA L l = 0 := by
 induction L with
 | nil => rfl
 | cons x L ih =>
  unfold valA
  rw [if_neg (h x List.mem_cons_self)]
  exact ih (fun y hy => h y (List.mem_cons_of_mem _ hy))
theorem valA_mem {L : List S89} (hs : SortedW L) {x : S89} (hx : x ∈ L) : valA L x.f0 = x.f1 := by
 induction L with
 | nil => cases hx
 | cons y L ih =>
  have h1 := List.pairwise_cons.1 hs
  unfold valA
  rcases List.mem_cons.1 hx with rfl | hx
  ·rw [if_pos rfl]
  rw [if_neg (befW_ne (h1.1 x hx)), ih h1.2 hx]
theorem putZ_length (p : Int) (l : List Int) (v : Int) : ∀ L : List S89, (putZ p L l v).length ≤ L.length + 1
 | [] => Nat.le_refl _
 | x :: xs => by
  have ih := putZ_length p l v xs
  unfold putZ
  split
  ·simp
  split
  ·simp
  simp only [List.length_cons]; omega
theorem putZ_mem (p : Int) (l : List Int) (v : Int) : ∀ {L : List S89}, SortedW L → ∀ y : S89, y ∈ putZ p L l v ↔ (y = ⟨l, (valA L l + v) % p⟩ ∨ (y ∈ L ∧ y.f0 ≠ l))
 | [], _, y => by simp [putZ, valA]
 | x :: xs, hs, y => by
  have h1 := List.pairwise_cons.1 hs
  have ih := putZ_mem p l v h1.2 y
  unfold putZ valA
  by_cases e : x.f0 = l
  ·rw [if_pos e, if_pos e]
   constructor
   ·intro h
    rcases List.mem_cons.1 h with rfl | h
    ·exact .inl rfl
    exact .inr ⟨List.mem_cons_of_mem _ h, fun e2 => befW_ne (h1.1 y h) (e.trans e2.symm)⟩
   rintro (rfl | ⟨h, h2⟩)
   ·exact List.mem_cons_self
   rcases List.mem_cons.1 h with rfl | h
   ·exact absurd e h2
   exact List.mem_cons_of_mem _ h
  rw [if_neg e, if_neg e]
  by_cases b : befW l x.f0 = true
  case neg =>
   rw [if_neg b, List.mem_cons, ih]
   constructor
   ·rintro (rfl | h | ⟨h, h2⟩)
    ·exact .inr ⟨List.mem_cons_self, e⟩
    ·exact .inl h
    ·exact .inr ⟨List.mem_cons_of_mem _ h, h2⟩
   ·rintro (h | ⟨h, h2⟩)
    ·exact .inr (.inl h)
    ·rcases List.mem_cons.1 h with rfl | h
     ·exact .inl rfl
     ·exact .inr (.inr ⟨h, h2⟩)
  rw [if_pos b]
  have hn : ∀ z ∈ xs, z.f0 ≠ l := fun z hz e2 => befW_ne (befW_trans b (h1.1 z hz)) e2.symm
  rw [valA_none hn, Int.zero_add]
  constructor
  ·intro h
   rcases List.mem_cons.1 h with rfl | h
   ·exact .inl rfl
   refine .inr ⟨h, ?_⟩
   rcases List.mem_cons.1 h with rfl | h
   ·exact e
   exact hn y h
  rintro (rfl | ⟨h, _⟩)
  ·exact List.mem_cons_self
  exact List.mem_cons_of_mem _ h
theorem putZ_sorted (p : Int) (l : List Int) (v : Int) : ∀ {L : List S89}, SortedW L → SortedW (putZ p L l v)
 | [], _ => List.pairwise_singleton _ _
 | x :: xs, hs => by
  have h1 := List.pairwise_cons.1 hs
  have ih := putZ_sorted p l v h1.2
  unfold putZ
  by_cases e : x.f0 = l
  ·rw [if_pos e]
   exact List.pairwise_cons.2 ⟨fun y hy => by rw [← e]; exact h1.1 y hy, h1.2⟩
  rw [if_neg e]
  by_cases b : befW l x.f0 = true
  ·rw [if_pos b]
   refine List.pairwise_cons.2 ⟨fun y hy => ?_, hs⟩
   rcases List.mem_cons.1 hy with rfl | hy
   ·exact b
   exact befW_trans b (h1.1 y hy)
  rw [if_neg b]
  refine List.pairwise_cons.2 ⟨fun y hy => ?_, ih⟩
  rcases (putZ_mem p l v h1.2 y).1 hy with rfl | ⟨hy, _⟩
  ·cases c : befW x.f0 l
   ·exact absurd (befW_tri c (by simpa using b)) e
   rfl
  exact h1.1 y hy
theorem sortedW_eq : ∀ {L M : List S89}, SortedW L → SortedW M → (∀ x, x ∈ L ↔ x ∈ M) → L = M
 | [], [], _, _, _ => rfl
 | [], y :: M, _, _, h => by have := (h y).2 List.mem_cons_self; cases this
 | x :: L, [], _, _, h => by have := (h x).1 List.mem_cons_self; cases this
 | x :: L, y :: M, hL, hM, h => by
  have h1 := List.pairwise_cons.1 hL
  have h2 := List.pairwise_cons.1 hM
  have e : x = y := by
   rcases List.mem_cons.1 ((h x).1 List.mem_cons_self) with e | hx
   ·exact e
   rcases List.mem_cons.1 ((h y).2 List.mem_cons_self) with e | hy
   ·exact e.symm
   have := befW_asymm (h1.1 y hy)
   rw [h2.1 x hx] at this
   cases this
  subst e
  refine congrArg _ (sortedW_eq h1.2 h2.2 fun z => ⟨fun hz => ?_, fun hz => ?_⟩)
  ·rcases List.mem_cons.1 ((h z).1 (List.mem_cons_of_mem _ hz)) with rfl | hm
   ·exact absurd rfl (befW_ne (h1.1 z hz))
   exact hm
  rcases List.mem_cons.1 ((h z).2 (List.mem_cons_of_mem _ hz)) with rfl | hm
  ·exact absurd rfl (befW_ne (h2.1 z hz))
  exact hm
def strW (l : List Int) : ByteArray := strOfNums (l.map fun x => (97 + x) % 256)
def keyW (l : List Int) : Lit := .string (strW l).data.toList
def okW (l : List Int) : Prop := l.length ≤ 1048576 ∧ ∀ x ∈ l, 0 ≤ x ∧ x < 100
theorem byte_inj {x y : Int} (hx : 0 ≤ x ∧ x < 100) (hy : 0 ≤ y ∧ y < 100) (h : UInt8.ofNat ((97 + x) % 256).toNat = UInt8.ofNat ((97 + y) % 256).toNat) : x = y := by
 have h1 := congrArg UInt8.toNat h
 simp only [UInt8.toNat_ofNat'] at h1
 omega
theorem strs_inj : ∀ {a b : List Int}, (∀ x ∈ a, 0 ≤ x ∧ x < 100) → (∀ x ∈ b, 0 ≤ x ∧ x < 100) → (a.map fun x => UInt8.ofNat ((97 + x) % 256).toNat) = (b.map fun x => UInt8.ofNat ((97 + x) % 256).toNat) → a = b
 | [], [], _, _, _ => rfl
 | [], _ :: _, _, _, h => by simp at h
 | _ :: _, [], _, _, h => by simp at h
 | x :: a, y :: b, ha, hb, h => by
  rw [List.map_cons, List.map_cons] at h
  injection h with h1 h2
  rw [byte_inj (ha x List.mem_cons_self) (hb y List.mem_cons_self) h1, strs_inj (fun z hz => ha z (List.mem_cons_of_mem _ hz)) (fun z hz => hb z (List.mem_cons_of_mem _ hz)) h2]
theorem keyW_inj {a b : List Int} (ha : okW a) (hb : okW b) (h : keyW a = keyW b) : a = b := by
 unfold keyW strW strOfNums at h
 injection h with h
 simp only [List.map_map] at h
 exact strs_inj ha.2 hb.2 (by simpa [Function.comp_def] using h)
theorem strW_size (l : List Int) : (strW l).size = l.length := by
 unfold strW strOfNums
 simp [ByteArray.size]
theorem keyW_isKey (l : List Int) : WideAt.IsKeyLit (keyW l) := trivial
def zT : Value := .agg #[.slice none 0 0, .int .i64 0]
def TermsIn (w : World) (f : Lit → Option Value) (L : List S89) : Prop :=
 (∀ x ∈ L, ∃ A c, f (keyW x.f0) = some (.agg #[.slice A x.f0.length c, .int .i64 x.f1]) ∧ x.f0.length ≤ c ∧ Kd.C (Kd.int .i64) w A x.f0.length x.f0) ∧ ∀ kl v, f kl = some v → ∃ x ∈ L, kl = keyW x.f0
structure Gath (w : World) (g : Nat) (p : Int) (b n : Nat) (L : List S89) : Prop where
 box : w.heap[g]? = some (.cells #[.int .i64 p, .map (some b)] 136 (0, 0))
 len : L.length ≤ n
 sorted : SortedW L
 words : ∀ x ∈ L, okW x.f0
 pos : 0 < p ∧ p ≤ 1000
 vals : ∀ x ∈ L, 0 ≤ x.f1 ∧ x.f1 < p
 map : ∃ (D : DataW Value) (f : Lit → Option Value), w.ownsMap Try.prog 9 heldR b n D ∧ HoldsM D zT f ∧ TermsIn w f L
theorem C_map {w w1 : World} {b n : Nat} {D : DataW Value} {A : Option Addr} {m : Nat} {xs : List Int} (h : w.ownsMap Try.prog 9 heldR b n D) (hg : w.grownBy w1 (some b)) (hr : Kd.C (Kd.int .i64) w A m xs) : Kd.C (Kd.int .i64) w1 A m xs := by
 obtain ⟨es, clock, hb, _⟩ := h
 refine ⟨hr.1, hr.2.1, fun hn => ?_⟩
 obtain ⟨ad, e, hc⟩ := hr.2.2 hn
 refine ⟨ad, e, fun j p hj => ?_⟩
 obtain ⟨c, hs, hK, hcell⟩ := hc j p hj
 refine ⟨c, hs, hK, fun i u hi => ?_⟩
 have h1 := hcell i u hi
 have hlt := World.block_lt_of_cell? _ _ h1
 have hne : (ad.add (j * (Kd.int .i64).sz + i)).block ≠ b := by
  intro e2
  unfold World.cell? at h1
  rw [e2, hb] at h1
  simp at h1
 exact (World.cell?_of_block (hg.block _ hlt (fun e2 => hne (by injection e2)))).trans h1
theorem TermsIn.below {w w' : World} {f : Lit → Option Value} {L : List S89} (h : TermsIn w f L) (hb : Below w.heap.size w w') : TermsIn w' f L :=
 ⟨fun x hx => by
  obtain ⟨A, c, h1, h2, h3⟩ := h.1 x hx
  exact ⟨A, c, h1, h2, Kd.C_below h3 hb⟩, h.2⟩
theorem Gath.below {w w' : World} {g : Nat} {p : Int} {b n : Nat} {L : List S89} (h : Gath w g p b n L) (hb : Below w.heap.size w w') : Gath w' g p b n L := by
 obtain ⟨D, f, h1, h2, h3⟩ := h.map
 exact ⟨(hb.block g (blk_lt h.box)).trans h.box, h.len, h.sorted, h.words, h.pos, h.vals, D, f, h1.kept ⟨hb.os, hb.tape, hb.output, hb.size, fun k hk _ => hb.block k hk⟩ (by simp : some b ≠ none), h2, h3.below hb⟩
theorem Gath.b_lt {w : World} {g : Nat} {p : Int} {b n : Nat} {L : List S89} (h : Gath w g p b n L) : b < w.heap.size := by
 obtain ⟨D, f, h1, _⟩ := h.map
 exact h1.lt
theorem TermsIn.at {w : World} {f : Lit → Option Value} {L : List S89} (h : TermsIn w f L) (hs : SortedW L) (hw : ∀ x ∈ L, okW x.f0) {l : List Int} (hl : okW l) : ∃ v, (f (keyW l)).getD zT = .agg #[v, .int .i64 (valA L l)] := by
 by_cases c : ∃ x ∈ L, x.f0 = l
 ·obtain ⟨x, hx, rfl⟩ := c
  obtain ⟨A, c, h1, _⟩ := h.1 x hx
  rw [h1, valA_mem hs hx]
  exact ⟨_, rfl⟩
 have hn : f (keyW l) = none := by
  cases e : f (keyW l) with
  | none => rfl
  | some v =>
   obtain ⟨x, hx, hk⟩ := h.2 _ _ e
   exact absurd ⟨x, hx, (keyW_inj hl (hw x hx) hk).symm⟩ c
 rw [hn, valA_none (fun x hx e => c ⟨x, hx, e⟩)]
 exact ⟨_, rfl⟩
theorem TermsIn.put {w w' : World} {f : Lit → Option Value} {L : List S89} (h : TermsIn w f L) (hs : SortedW L) (hw : ∀ x ∈ L, okW x.f0) {l : List Int} (hl : okW l) (p v : Int) {A : Option Addr} {c : Nat} (hc : l.length ≤ c) (hr : Kd.C (Kd.int .i64) w' A l.length l)
  (hm : ∀ (A : Option Addr) (m : Nat) (xs : List Int), Kd.C (Kd.int .i64) w A m xs → Kd.C (Kd.int .i64) w' A m xs) : TermsIn w' (updM f (keyW l) (.agg #[.slice A l.length c, .int .i64 ((valA L l + v) % p)])) (putZ p L l v) := by
 refine ⟨fun x hx => ?_, fun kl u hu => ?_⟩
 ·rcases (putZ_mem p l v hs x).1 hx with rfl | ⟨hx, hne⟩
  ·exact ⟨A, c, updM_same _ _ _, hc, hr⟩
  obtain ⟨A', c', h1, h2, h3⟩ := h.1 x hx
  exact ⟨A', c', by rw [updM_other _ _ (fun e => hne (keyW_inj (hw x hx) hl e))]; exact h1, h2, hm _ _ _ h3⟩
 by_cases e : kl = keyW l
 ·exact ⟨⟨l, (valA L l + v) % p⟩, (putZ_mem p l v hs _).2 (.inl rfl), e⟩
 rw [updM_other _ _ e] at hu
 obtain ⟨x, hx, hk⟩ := h.2 kl u hu
 refine ⟨x, (putZ_mem p l v hs x).2 (.inr ⟨hx, fun e2 => e (by rw [hk, e2])⟩), hk⟩
theorem putZ_words {p v : Int} {l : List Int} {L : List S89} (hs : SortedW L) (hw : ∀ x ∈ L, okW x.f0) (hl : okW l) : ∀ x ∈ putZ p L l v, okW x.f0 := fun x hx => by
 rcases (putZ_mem p l v hs x).1 hx with rfl | ⟨hx, _⟩
 ·exact hl
 exact hw x hx
theorem valA_bound {p : Int} (hp : 0 < p) {l : List Int} : ∀ {L : List S89}, (∀ x ∈ L, 0 ≤ x.f1 ∧ x.f1 < p) → 0 ≤ valA L l ∧ valA L l < p
 | [], _ => ⟨Int.le_refl _, hp⟩
 | x :: xs, h => by
  unfold valA
  by_cases e : x.f0 = l
  ·rw [if_pos e]; exact h x List.mem_cons_self
  rw [if_neg e]; exact valA_bound hp (fun y hy => h y (List.mem_cons_of_mem _ hy))
theorem putZ_vals {p v : Int} (hp : 0 < p) {l : List Int} {L : List S89} (hs : SortedW L) (h : ∀ x ∈ L, 0 ≤ x.f1 ∧ x.f1 < p) : ∀ x ∈ putZ p L l v, 0 ≤ x.f1 ∧ x.f1 < p := fun x hx => by
 rcases (putZ_mem p l v hs x).1 hx with rfl | ⟨hx, _⟩
 ·exact ⟨Int.emod_nonneg _ (by omega), Int.emod_lt_of_pos _ hp⟩
 exact h x hx
theorem rest_f {x p : Int} (hp : 0 < p) (hq : p ≤ 1000) : impl_rest.f x p = some (x % p) := by
 unfold impl_rest.f
 rw [if_neg (by omega)]
 have h1 := Int.tmod_lt_of_pos x hp
 have h2 : -p < Int.tmod x p := by
  rcases Int.lt_or_le x 0 with h | h
  ·have := Int.neg_tmod (-x) p
   rw [Int.neg_neg] at this
   rw [this]
   have := Int.tmod_lt_of_pos (-x) hp
   omega
  have := Int.tmod_nonneg p h
  omega
 have e : wrap64 (Int.tmod x p + p) = Int.tmod x p + p := by unfold wrap64; omega
 rw [e]
 congr 1
 have h3 : Int.tmod (Int.tmod x p + p) p = (Int.tmod x p + p) % p := Int.tmod_eq_emod_of_nonneg (by omega)
 rw [h3, Int.add_emod_right]
 have h4 := Int.mul_tdiv_add_tmod x p
 have h5 : x % p = (p * Int.tdiv x p + Int.tmod x p) % p := by rw [h4]
 rw [h5, Int.mul_add_emod_self_left]
theorem wordText_f (l : List Int) (hl : l.length ≤ 1048576) : ∃ k, impl_wordText.f k l = some (strW l) := by
 have key : ∀ (d k : Nat), k ≤ l.length → l.length - k = d → impl_wordText.l0 (d + 1) ((l.take k).map fun x => (97 + x) % 256) l (l.length : Int) k = some (strW l) := by
  intro d
  induction d with
  | zero =>
   intro k hk hd
   have e : k = l.length := by omega
   subst e
   rw [impl_wordText.l0, if_neg (by omega), List.take_length]
   rfl
  | succ d ih =>
   intro k hk hd
   have hlt : k < l.length := by omega
   have h := ih (k + 1) (by omega) (by omega)
   rw [List.take_succ_eq_append_getElem hlt, List.map_append] at h
   rw [impl_wordText.l0, if_pos (by omega), if_pos (by omega), if_pos (by omega), if_pos (by rw [List.length_map, List.length_take]; omega)]
   have e1 : wrap64 ((k : Int) + 1) = ((k + 1 : Nat) : Int) := by unfold wrap64; omega
   have e2 : rd l (k : Int) = l[k] := by unfold rd; rw [Int.toNat_natCast, List.getD_eq_getElem?_getD, List.getElem?_eq_getElem hlt]; rfl
   rw [e1, e2]
   exact h
 refine ⟨l.length + 1, ?_⟩
 unfold impl_wordText.f
 exact key l.length 0 (by omega) (by omega)
theorem zero_T (w : World) : (zeroValue 89).run Try.prog w = .ok zT w := by kernel_rfl
theorem key_W {l : List Int} (hl : okW l) : keyOf Try.prog 9 (.string (strW l)) = some (keyW l) := WideMaps.keyOf_string_mk Try.underlying9 (by rw [strW_size]; have := hl.1; unfold maxLen; omega)
theorem Gath.look {w : World} {g : Nat} {p : Int} {b n : Nat} {L : List S89} (h : Gath w g p b n L) {l : List Int} (hl : okW l) : ∃ v, ∀ W : World, W.heap = w.heap → (Instr.lookup 134 (.map (some b)) (.string (strW l)) false).run Try.prog W = .ok (.agg #[v, .int .i64 (valA L l)]) W := by
 obtain ⟨D, f, h1, h2, h3⟩ := h.map
 obtain ⟨v, hv⟩ := h3.at h.sorted h.words hl
 refine ⟨v, fun W hW => ?_⟩
 have h4 : W.ownsMap Try.prog 9 heldR b n D := by
  obtain ⟨es, clock, hb, r⟩ := h1
  exact ⟨es, clock, by rw [hW]; exact hb, r⟩
 have := lookup_held h4 h2 (string_keyed Try.underlying9) Try.underlying134 (zero_T W) (key_W hl)
 rw [hv] at this
 exact this
theorem Gath.upd {w : World} {g : Nat} {p : Int} {b n : Nat} {L : List S89} (h : Gath w g p b n L) (hn : n < maxLen) {l : List Int} (hl : okW l) (v : Int) {A : Option Addr} {c : Nat} (hc : l.length ≤ c) (hr : Kd.C (Kd.int .i64) w A l.length l) :
  ∃ w', (Instr.mapUpdate 134 (.map (some b)) (.string (strW l)) (.agg #[.slice A l.length c, .int .i64 ((valA L l + v) % p)])).run Try.prog w = .ok () w' ∧ Gath w' g p b (n + 1) (putZ p L l v) ∧ w.grownBy w' (some b) := by
 obtain ⟨D, f, h1, h2, h3⟩ := h.map
 obtain ⟨w', D', hrun, ho, hD, hg⟩ := update_held h1 h2 (string_keyed Try.underlying9) Try.underlying134 hn (key_W hl) (v := .agg #[.slice A l.length c, .int .i64 ((valA L l + v) % p)])
 have hlen := putZ_length p l v L
 have := h.len
 refine ⟨w', hrun, ⟨(hg.block g (blk_lt h.box) (fun e => map_ne_blk h1 h.box (Option.some.inj e).symm)).trans h.box, by omega, putZ_sorted p l v h.sorted, putZ_words h.sorted h.words hl, h.pos, putZ_vals h.pos.1 h.sorted h.vals, D', _, ho, hD, h3.put h.sorted h.words hl p v hc (C_map h1 hg hr) (fun A m xs hC => C_map h1 hg hC)⟩, hg⟩
theorem Gath.new (w : World) (p : Int) (hp : 0 < p ∧ p ≤ 1000) (g : Nat) (hg : g = (w.alloc (.map #[] 0)).heap.size) : Gath ((w.alloc (.map #[] 0)).alloc (.cells #[.int .i64 p, .map (some w.heap.size)] 136)) g p w.heap.size 0 [] := by
 subst hg
 refine ⟨blk_new _ _, Nat.le_refl _, List.Pairwise.nil, fun x hx => (List.not_mem_nil hx).elim, hp, fun x hx => (List.not_mem_nil hx).elim, .map [], fun _ => none, (World.ownsMap_made _ _ _ _).alloc _, HoldsM.none _, fun x hx => (List.not_mem_nil hx).elim, fun kl v h => by cases h⟩
set_option maxHeartbeats 1000000 in
set_option maxRecDepth 100000 in
theorem impl_newGather.calls (p : Int) (hp : 0 < p ∧ p ≤ 1000) (w : World) :
  Calls Try.prog 125 #[.int .i64 p] w fun e w' => ∃ g b, e = .returned (.pointer (some ⟨g, 0, none⟩)) ∧ Gath w' g p b 0 [] ∧ w.heap.size ≤ g ∧ w.heap.size ≤ b ∧ Below w.heap.size w w' := by
 have hmm := @run_makeMap Try.prog
 go_enter Try.func125, Try.ntmps125
 go_wp2
 go_ret
 exact ⟨_, _, rfl, Gath.new w p hp _ (by simp), by simp, Nat.le_refl _, (below_alloc (below_alloc (Below.refl _ _) _) _)⟩
def impl_gather_add.T1 : Bool × List (List Nat × List Nat) := (true, [([], []), ([0], [0]), ([1], [1]), ([2], [2]), ([], []), ([], []), ([], []), ([6], [6]), ([7], [7]), ([8], [8]), ([], []), ([9, 10], [9, 10]), ([11], [11]), ([], []), ([12, 13], [12, 13]), ([], []), ([15], [15]), ([16], [16]), ([17], [17]), ([14, 18], [14, 18]), ([5, 19], [5, 19]), ([3, 4, 20, 19, 0, 1, 2, 3, 4, 5, 6, 7, 8, 9, 10, 11, 12, 13, 14, 15, 16, 17, 18, 19, 20], [3, 4, 20])])
def impl_gather_add.B1 : List Nat := [0, 1, 3, 7, 0, 0, 0, 64, 192, 448, 0, 1984, 4032, 0, 16320, 0, 32768, 98304, 229376, 524224, 1048544, 2097151]
theorem impl_gather_add.tab1 : rtab .any (opsOf Try.f126 1) = impl_gather_add.T1 := by kernel_rfl
theorem impl_gather_add.bits1 : waitsOk impl_gather_add.T1.2 impl_gather_add.B1 = true := by kernel_rfl
theorem field_T (v0 x : Value) (W : World) : (Instr.field 89 (.agg #[v0, x]) 1).run Try.prog W = .ok x W := by kernel_rfl
set_option maxHeartbeats 4000000 in
set_option maxRecDepth 100000 in
theorem impl_gather_add.calls (g : Nat) (p : Int) (b n : Nat) (L : List S89) (A0 : Option Addr) (c0 : Nat) (l0 : List Int) (v : Int) (w : World) (hG : Gath w g p b n L) (hn : n < maxLen) (hv : -1000000 ≤ v ∧ v ≤ 1000000)
  (hr0 : Kd.C (Kd.int .i64) w A0 l0.length l0) (hc0 : l0.length ≤ c0) (hl : okW l0) :
  Calls Try.prog 126 #[.pointer (some ⟨g, 0, none⟩), .slice A0 l0.length c0, .int .i64 v] w fun e w' => e = .returned (.tuple #[]) ∧ Gath w' g p b (n + 1) (putZ p L l0 v) ∧ w.grownBy w' (some b) := by
 have hfd : ∀ (v0 x : Value) (W : World), Sem.run Try.prog (Instr.field 89 (.agg #[v0, x]) 1) W = .ok x W := field_T
 have hu136 := Try.underlying136
 obtain ⟨k, ht⟩ := wordText_f l0 hl.1
 have hb := valA_bound (p := p) hG.pos.1 (l := l0) hG.vals
 have HRS := Aside0.mk (show impl_rest.f (wrap64 (valA L l0 + v)) p = some ((valA L l0 + v) % p) by
  have e : wrap64 (valA L l0 + v) = valA L l0 + v := by have := hG.pos; unfold wrap64; omega
  rw [e]
  exact rest_f hG.pos.1 hG.pos.2)
 have HT := Aside0.mk ht
 have HG := Aside0.mk hG
 have HN := Aside0.mk hn
 have HR0 := Aside0.mk hr0
 have HC0 := Aside0.mk hc0
 have HL := Aside0.mk hl
 clear ht hG hn hv hr0 hc0 hl hb
 go_enter Try.func126, Try.ntmps126
 go_wp2_with fail
 refine (impl_wordText.calls k _ _ l0 (strW l0) _ HR0.out HC0.out HT.out).mono ?_
 rintro e w1 ⟨rfl, hb1⟩
 have HB1 := Aside0.mk hb1
 have HG1 := Aside0.mk (HG.out.below hb1)
 have HR1 := Aside0.mk (Kd.C_below HR0.out hb1)
 clear hb1
 obtain ⟨v0, hlk⟩ := HG1.out.look HL.out
 have HLK := Aside0.mk hlk
 clear hlk
 go_wp2_with fail
 refine start_ (n := 22) (S := fun w' => w'.cell? ⟨g, 0, none⟩ = some (.int .i64 p) ∧ w'.cell? ⟨g, 1, none⟩ = some (.map (some b)) ∧ Sem.run Try.prog (Instr.lookup 134 (.map (some b)) (.string (strW l0)) false) w' = .ok (.agg #[v0, .int .i64 (valA L l0)]) w') (ds := [21]) #[false, false, false, false, false, false, false, false, false, false, false, false, false, false, false, false, false, false, false, false, false, false] (by kernel_rfl) rfl rfl ⟨(blk_cell HG1.out.box 0).trans rfl, (blk_cell HG1.out.box 1).trans rfl, HLK.out _ rfl⟩ (fun hHeld => ?_)
 refine with_tabW impl_gather_add.tab1 impl_gather_add.bits1 (fun HT_ HW_ => ?_)
 refine pure_ (i := 0) (N := some 9) (v := ?_) (a' := ?_) (bv 22 1) rfl rfl (any_of HT_.out (by kernel_rfl)) (fun _ _ _ h => h) (Or.inl ⟨by rfl, ?_⟩) ?_ ?_
 rotate_left
 ·intro w'
  go_simp
  with_reducible rfl
 rotate_left
 ·simp only [Act.put, sA, sZ, sS, i64_w, i32_w]
  rfl
 refine pure_ (i := 1) (N := some 10) (v := ?_) (a' := ?_) (bv 22 3) rfl rfl (any_of HT_.out (by kernel_rfl)) (fun _ _ _ h => h) (Or.inl ⟨by rfl, ?_⟩) ?_ ?_
 rotate_left
 ·intro w'
  go_simp
  with_reducible rfl
 rotate_left
 ·simp only [Act.put, sA, sZ, sS, i64_w, i32_w]
  rfl
 refine pure_ (i := 2) (N := some 11) (v := ?_) (a' := ?_) (bv 22 7) rfl rfl (any_of HT_.out (by kernel_rfl)) (fun _ _ _ h => h) (Or.inl ⟨by rfl, ?_⟩) ?_ ?_
 rotate_left
 ·intro w'
  go_simp
  with_reducible rfl
 rotate_left
 ·simp only [Act.put, sA, sZ, sS, i64_w, i32_w]
  rfl
 refine pure_ (i := 4) (N := some 13) (v := ?_) (a' := ?_) (bv 22 23) rfl rfl (any_of HT_.out (by kernel_rfl)) (fun _ _ _ h => h) (Or.inl ⟨by rfl, ?_⟩) ?_ ?_
 rotate_left
 ·intro w'
  go_simp
  with_reducible rfl
 rotate_left
 ·simp only [Act.put, sA, sZ, sS, i64_w, i32_w]
  rfl
 refine pure_ (i := 5) (N := some 14) (v := ?_) (a' := ?_) (bv 22 55) rfl rfl (any_of HT_.out (by kernel_rfl)) (fun _ _ _ h => h) (Or.inl ⟨by rfl, ?_⟩) ?_ ?_
 rotate_left
 ·intro w'
  go_simp
  with_reducible rfl
 rotate_left
 ·simp only [Act.put, sA, sZ, sS, i64_w, i32_w]
  rfl
 refine pure_ (i := 6) (N := some 15) (v := ?_) (a' := ?_) (bv 22 119) rfl rfl (any_of HT_.out (by kernel_rfl)) (fun _ _ _ h => h) (Or.inl ⟨by rfl, ?_⟩) ?_ ?_
 rotate_left
 ·intro w'
  go_simp
  with_reducible rfl
 rotate_left
 ·simp only [Act.put, sA, sZ, sS, i64_w, i32_w]
  rfl
 refine pure_ (i := 7) (N := some 16) (v := ?_) (a' := ?_) (bv 22 247) rfl rfl (any_of HT_.out (by kernel_rfl)) (fun _ _ _ h => h) (Or.inl ⟨by rfl, ?_⟩) ?_ ?_
 rotate_left
 ·intro w'
  go_simp
  with_reducible rfl
 rotate_left
 ·simp only [Act.put, sA, sZ, sS, i64_w, i32_w]
  rfl
 refine pure_ (i := 8) (N := some 17) (v := ?_) (a' := ?_) (bv 22 503) rfl rfl (any_of HT_.out (by kernel_rfl)) (fun _ _ _ h => h) (Or.inl ⟨by rfl, ?_⟩) ?_ ?_
 rotate_left
 ·intro w'
  go_simp
  with_reducible rfl
 rotate_left
 ·simp only [Act.put, sA, sZ, sS, i64_w, i32_w]
  rfl
 refine pure_ (i := 10) (N := some 19) (v := ?_) (a' := ?_) (bv 22 1527) rfl rfl (any_of HT_.out (by kernel_rfl)) (fun _ _ _ h => h) (Or.inl ⟨by rfl, ?_⟩) ?_ ?_
 rotate_left
 ·intro w'
  go_simp
  with_reducible rfl
 rotate_left
 ·simp only [Act.put, sA, sZ, sS, i64_w, i32_w]
  rfl
 refine pure_ (i := 13) (N := some 22) (v := ?_) (a' := ?_) (bv 22 9719) rfl rfl (any_of HT_.out (by kernel_rfl)) (fun _ _ _ h => h) (Or.inl ⟨by rfl, ?_⟩) ?_ ?_
 rotate_left
 ·intro w'
  go_simp
  with_reducible rfl
 rotate_left
 ·simp only [Act.put, sA, sZ, sS, i64_w, i32_w]
  rfl
 refine pure_ (i := 15) (N := some 24) (v := ?_) (a' := ?_) (bv 22 42487) rfl rfl (any_of HT_.out (by kernel_rfl)) (fun _ _ _ h => h) (Or.inl ⟨by rfl, ?_⟩) ?_ ?_
 rotate_left
 ·intro w'
  go_simp
  with_reducible rfl
 rotate_left
 ·simp only [Act.put, sA, sZ, sS, i64_w, i32_w]
  rfl
 refine pure_ (i := 16) (N := some 25) (v := ?_) (a' := ?_) (bv 22 108023) rfl rfl (any_of HT_.out (by kernel_rfl)) (fun _ _ _ h => h) (Or.inl ⟨by rfl, ?_⟩) ?_ ?_
 rotate_left
 ·intro w'
  go_simp
  with_reducible rfl
 rotate_left
 ·simp only [Act.put, sA, sZ, sS, i64_w, i32_w]
  rfl
 refine pure_ (i := 17) (N := some 26) (v := ?_) (a' := ?_) (bv 22 239095) rfl rfl (any_of HT_.out (by kernel_rfl)) (fun _ _ _ h => h) (Or.inl ⟨by rfl, ?_⟩) ?_ ?_
 rotate_left
 ·intro w'
  go_simp
  with_reducible rfl
 rotate_left
 ·simp only [Act.put, sA, sZ, sS, i64_w, i32_w]
  rfl
 refine take_ (i := 3) (N := some 12) (v := ?_) (a' := ?_) (bv 22 239103) rfl rfl (take_ofW HT_.out HW_.out (by kernel_rfl)) (fun _ _ _ h => h) (Or.inl ⟨by rfl, ?_⟩) hHeld ?_ ?_
 rotate_left
 ·rintro w' ⟨s0, s1, s2⟩
  go_simp
  with_reducible rfl
 rotate_left
 ·simp only [Act.put, sA, sZ, sS, i64_w, i32_w]
  rfl
 refine take_ (i := 9) (N := some 18) (v := ?_) (a' := ?_) (bv 22 239615) rfl rfl (take_ofW HT_.out HW_.out (by kernel_rfl)) (fun _ _ _ h => h) (Or.inl ⟨by rfl, ?_⟩) hHeld ?_ ?_
 rotate_left
 ·rintro w' ⟨s0, s1, s2⟩
  go_simp
  with_reducible rfl
 rotate_left
 ·simp only [Act.put, sA, sZ, sS, i64_w, i32_w]
  rfl
 refine take_ (i := 11) (N := some 20) (v := ?_) (a' := ?_) (bv 22 241663) rfl rfl (take_ofW HT_.out HW_.out (by kernel_rfl)) (fun _ _ _ h => h) (Or.inl ⟨by rfl, ?_⟩) hHeld ?_ ?_
 rotate_left
 ·rintro w' ⟨s0, s1, s2⟩
  go_simp
  with_reducible rfl
 rotate_left
 ·simp only [Act.put, sA, sZ, sS, i64_w, i32_w]
  rfl
 refine pure_ (i := 12) (N := some 21) (v := ?_) (a' := ?_) (bv 22 245759) rfl rfl (any_of HT_.out (by kernel_rfl)) (fun _ _ _ h => h) (Or.inl ⟨by rfl, ?_⟩) ?_ ?_
 rotate_left
 ·intro w'
  go_simp
  with_reducible rfl
 rotate_left
 ·simp only [Act.put, sA, sZ, sS, i64_w, i32_w]
  rfl
 refine pure_ (i := 14) (N := some 23) (v := ?_) (a' := ?_) (bv 22 262143) rfl rfl (any_of HT_.out (by kernel_rfl)) (fun _ _ _ h => h) (Or.inl ⟨by rfl, ?_⟩) ?_ ?_
 rotate_left
 ·intro w'
  go_simp
  with_reducible rfl
 rotate_left
 ·simp only [Act.put, sA, sZ, sS, i64_w, i32_w]
  rfl
 refine take_ (i := 18) (N := some 27) (v := ?_) (a' := ?_) (bv 22 524287) rfl rfl (take_ofW HT_.out HW_.out (by kernel_rfl)) (fun _ _ _ h => h) (Or.inl ⟨by rfl, ?_⟩) hHeld ?_ ?_
 rotate_left
 ·rintro w' ⟨s0, s1, s2⟩
  go_simp
  with_reducible rfl
 rotate_left
 ·simp only [Act.put, sA, sZ, sS, i64_w, i32_w]
  rfl
 refine one_ (i := 19) (N := some 28) (bv 22 1048575) rfl rfl (one_of HT_.out (by kernel_rfl)) (by decide) (fun K hK => ?_)
 refine goes_ Try.func63 (by kernel_rfl) rfl #[.int .i64 (wrap64 (valA L l0 + v)), .int .i64 p] (by rfl) rfl rfl (by simp only [List.map_toArray, List.map_cons, List.map_nil]; rfl) ?_
 with_reducible refine (impl_rest.calls _ _ ((valA L l0 + v) % p) _ HRS.out).mono ?_
 rintro e w2 ⟨rfl, ⟨nd, rfl⟩⟩
 refine ⟨_, rfl, ?_⟩
 refine hK.out _ _ ⟨(blk_cell HG1.out.box 0).trans rfl, (blk_cell HG1.out.box 1).trans rfl, HLK.out _ rfl⟩ (fun hHeld => ?_)
 clear hK K
 refine norm_ (a' := ?_) ?_ ?_
 rotate_left
 ·show Act.put _ (some 28) _ = _
  simp only [Act.put, sA, sZ, sS, i64_w, i32_w]
  rfl
 refine pure_ (i := 20) (N := some 29) (v := ?_) (a' := ?_) (bv 22 2097151) rfl rfl (any_of HT_.out (by kernel_rfl)) (fun _ _ _ h => h) (Or.inl ⟨by rfl, ?_⟩) ?_ ?_
 rotate_left
 ·intro w'
  go_simp
  with_reducible rfl
 rotate_left
 ·simp only [Act.put, sA, sZ, sS, i64_w, i32_w]
  rfl
 refine last_ (i := 21) (N := none) (bv 22 4194303) rfl rfl (one_of HT_.out (by kernel_rfl)) (by decide) (fun K hK => ?_)
 obtain ⟨w3, hup, hG3, hg3⟩ := (HG1.out.below (pw_below_drewN (Below.refl _ w1) (1 + nd))).upd HN.out HL.out v HC0.out (show Kd.C (Kd.int .i64) (w1.drewN (1 + nd)) A0 l0.length l0 from HR1.out)
 have HG3 := Aside0.mk hG3
 have HGR := Aside0.mk hg3
 clear hG3 hg3
 refine skip_ (w1 := ?_) (by rfl) rfl ?_ ?_
 rotate_left
 ·go_simp
  rfl
 refine hK.out _ _ ?_
 clear hK K
 refine done_ (done_of HT_.out (by kernel_rfl)) ?_
 try go_wp2
 go_end0
 exact ⟨rfl, HG3.out, ⟨HGR.out.os.trans HB1.out.os, HGR.out.tape.trans HB1.out.tape, HGR.out.output.trans HB1.out.output, Nat.le_trans HB1.out.size HGR.out.size, fun k_ hk_ hne_ => (HGR.out.block k_ (Nat.lt_of_lt_of_le hk_ HB1.out.size) hne_).trans (HB1.out.block k_ hk_)⟩⟩
def sortT_ren : Go.Shelf.Ren := ⟨fun | 6 => 145 | 15 => 152 | 14 => 151 | 28 => 161 | 29 => 162 | 20 => 153 | 21 => 154 | 22 => 155 | 23 => 156 | 24 => 157 | 25 => 158 | 26 => 159 | 27 => 160 | 46 => 163 | 47 => 164 | 48 => 165 | 49 => 166 | 50 => 167 | 57 => 168 | n => n, fun | 22 => 47 | 24 => 89 | 25 => 139 | 3 => 3 | 39 => 145 | 0 => 0 | 53 => 155 | 55 => 157 | 4 => 4 | 46 => 148 | 45 => 147 | 50 => 152 | 5 => 5 | 9 => 9 | 66 => 158 | 70 => 162 | 76 => 164 | 77 => 165 | n => n, fun | n => n⟩
theorem sortT : Go.Proofs.SlLaysF0.n6 Try.prog sortT_ren := {
 mixed := by kernel_rfl
 f6 := ⟨Try.f145.name, by decide, Try.func145.trans (congrArg some (by kernel_rfl))⟩
 f14 := ⟨Try.f151.name, by decide, Try.func151.trans (congrArg some (by kernel_rfl))⟩
 f15 := Try.func152.trans (congrArg some (by kernel_rfl))
 f20 := ⟨Try.f153.name, by decide, Try.func153.trans (congrArg some (by kernel_rfl))⟩
 f21 := ⟨Try.f154.name, by decide, Try.func154.trans (congrArg some (by kernel_rfl))⟩
 f22 := ⟨Try.f155.name, by decide, Try.func155.trans (congrArg some (by kernel_rfl))⟩
 f23 := ⟨Try.f156.name, by decide, Try.func156.trans (congrArg some (by kernel_rfl))⟩
 f24 := ⟨Try.f157.name, by decide, Try.func157.trans (congrArg some (by kernel_rfl))⟩
 f25 := ⟨Try.f158.name, by decide, Try.func158.trans (congrArg some (by kernel_rfl))⟩
 f26 := ⟨Try.f159.name, by decide, Try.func159.trans (congrArg some (by kernel_rfl))⟩
 f27 := ⟨Try.f160.name, by decide, Try.func160.trans (congrArg some (by kernel_rfl))⟩
 f28 := Try.func161.trans (congrArg some (by kernel_rfl))
 f29 := Try.func162.trans (congrArg some (by kernel_rfl))
 f46 := ⟨Try.f163.name, by decide, Try.func163.trans (congrArg some (by kernel_rfl))⟩
 f47 := Try.func164.trans (congrArg some (by kernel_rfl))
 f48 := Try.func165.trans (congrArg some (by kernel_rfl))
 f49 := ⟨Try.f166.name, by decide, Try.func166.trans (congrArg some (by kernel_rfl))⟩
 f50 := ⟨Try.f167.name, by decide, Try.func167.trans (congrArg some (by kernel_rfl))⟩
 f57 := ⟨Try.f168.name, by decide, Try.func168.trans (congrArg some (by kernel_rfl))⟩
 t0 := Try.underlying0
 a0 := Try.isAgg0
 z0 := Try.sizeOf0
 v0 := Try.zeroValue0
 t3 := Try.underlying3
 a3 := Try.isAgg3
 z3 := Try.sizeOf3
 v3 := Try.zeroValue3
 t4 := Try.underlying4
 a4 := Try.isAgg4
 z4 := Try.sizeOf4
 v4 := Try.zeroValue4
 t5 := Try.underlying5
 a5 := Try.isAgg5
 z5 := Try.sizeOf5
 v5 := Try.zeroValue5
 t9 := Try.underlying9
 a9 := Try.isAgg9
 z9 := Try.sizeOf9
 v9 := Try.zeroValue9
 t22 := Try.underlying47
 a22 := Try.isAgg47
 z22 := Try.sizeOf47
 v22 := Try.zeroValue47
 t25 := Try.underlying139
 a25 := Try.isAgg139
 z25 := Try.sizeOf139
 v25 := Try.zeroValue139
 t39 := Try.underlying145
 a39 := Try.isAgg145
 z39 := Try.sizeOf145
 v39 := Try.zeroValue145
 t45 := Try.underlying147
 a45 := Try.isAgg147
 z45 := Try.sizeOf147
 v45 := Try.zeroValue147
 t46 := Try.underlying148
 a46 := Try.isAgg148
 z46 := Try.sizeOf148
 v46 := Try.zeroValue148
 t50 := Try.underlying152
 a50 := Try.isAgg152
 z50 := Try.sizeOf152
 v50 := Try.zeroValue152
 t53 := Try.underlying155
 a53 := Try.isAgg155
 z53 := Try.sizeOf155
 v53 := Try.zeroValue155
 t55 := Try.underlying157
 a55 := Try.isAgg157
 z55 := Try.sizeOf157
 v55 := Try.zeroValue157
 t66 := Try.underlying158
 a66 := Try.isAgg158
 z66 := Try.sizeOf158
 v66 := Try.zeroValue158
 t70 := Try.underlying162
 a70 := Try.isAgg162
 z70 := Try.sizeOf162
 v70 := Try.zeroValue162
 t76 := Try.underlying164
 a76 := Try.isAgg164
 z76 := Try.sizeOf164
 v76 := Try.zeroValue164
 t77 := Try.underlying165
 a77 := Try.isAgg165
 z77 := Try.sizeOf165
 v77 := Try.zeroValue165 }
theorem C_new2 (w : World) (x y : Int) (t : Nat) : Kd.C (Kd.int .i64) (w.alloc (.cells #[.int .i64 x, .int .i64 y] t)) (some ⟨w.heap.size, 0, none⟩) ([x, y] : List Int).length [x, y] := by
 refine ⟨rfl, by simp, fun _ => ⟨_, rfl, fun j p hj => ?_⟩⟩
 refine ⟨[.int .i64 p], rfl, rfl, fun i u hu => ?_⟩
 have hi : i = 0 := by
  rcases i with _ | i
  ·rfl
  simp at hu
 subst hi
 have hu' : u = .int .i64 p := by simpa using hu.symm
 subst hu'
 have e : (Addr.add ⟨w.heap.size, 0, none⟩ (j * (Kd.int .i64).sz + 0)) = ⟨w.heap.size, j, none⟩ := by
  rw [show j * (Kd.int .i64).sz + 0 = j from Nat.mul_one j, add_at, Nat.zero_add]
 rw [e]
 have hb := blk_new w (.cells #[.int .i64 x, .int .i64 y] t)
 rcases j with _ | _ | j
 ·have : p = x := by simpa using hj.symm
  subst this
  exact (blk_cell hb 0).trans rfl
 ·have : p = y := by simpa using hj.symm
  subst this
  exact (blk_cell hb 1).trans rfl
 simp at hj
set_option maxHeartbeats 4000000 in
set_option maxRecDepth 100000 in
theorem wordOrder_grow (k : Nat) (A0 : Option Addr) (c0 : Nat) (l0 : List Int) (A1 : Option Addr) (c1 : Nat) (l1 : List Int) (r : Int) (w : World) (hr0 : Kd.C (Kd.int .i64) w A0 l0.length l0) (hc0 : l0.length ≤ c0) (hr1 : Kd.C (Kd.int .i64) w A1 l1.length l1) (hc1 : l1.length ≤ c1) (h : impl_wordOrder.f k l0 l1 = some r) :
  Calls Try.prog 81 #[.slice A0 l0.length c0, .slice A1 l1.length c1] w fun e w' => e = .returned (.int .i64 r) ∧ ∃ q os', w' = Sort.grow (w.drewN q) os' := by
 have HR0 := Aside0.mk hr0
 have HC0 := Aside0.mk hc0
 have HR1 := Aside0.mk hr1
 have HC1 := Aside0.mk hc1
 clear hr0 hc0 hr1 hc1
 unfold impl_wordOrder.f at h
 obtain ⟨t101, a1, h⟩ := Option.bind_eq_some_iff.mp h
 obtain ⟨t102, a2, h⟩ := Option.bind_eq_some_iff.mp h
 obtain ⟨t106, a3, h⟩ := Option.bind_eq_some_iff.mp h
 obtain rfl := Option.some.inj h
 have A3 := Aside0.mk a1
 have A4 := Aside0.mk a2
 have A5 := Aside0.mk a3
 clear a1 a2 a3 h
 go_enter Try.func81, Try.ntmps81
 go_wp2_with (first
  | (go_at_call 119; refine (cmp_Compare_int.calls _ _ t101 _ A3.out).mono ?_; rintro e w' ⟨rfl, ⟨n1, rfl⟩⟩)
  | (go_at_call 120; refine (slices_Compare_int64_int64.calls k _ _ l0 _ _ l1 t102 _ (Kd.C_drewN HR0.out _) HC0.out (Kd.C_drewN HR1.out _) HC1.out A4.out).mono ?_; rintro e w' ⟨rfl, ⟨n2, rfl⟩⟩)
  | (go_at_call 118; go_loud (refine (cmp_Or_int.calls k _ _ [t101, t102] t106 _ (C_new2 _ t101 t102 3) (show ([t101, t102] : List Int).length ≤ 2 from Nat.le_refl _) A5.out).mono ?_); rintro e w' ⟨rfl, ⟨n3, rfl⟩⟩))
 go_ret
 refine ⟨rfl, n1 + n2 + n3, #[.cells #[.int .i64 t101, .int .i64 t102] 3], ?_⟩
 rw [Sort.alloc_eq_grow]
 show Sort.grow ((w.drewN (n1 + n2)).drewN n3) _ = _
 rw [World.drewN_drewN]
theorem order_f (a b : List Int) (ha : a.length ≤ 1048576) (hb : b.length ≤ 1048576) : ∃ k, impl_wordOrder.f k a b = some (ordW a b) := by
 obtain ⟨K, h⟩ := Pure.ev_order a b ha hb
 exact ⟨K, h K (Nat.le_refl _)⟩
set_option maxHeartbeats 4000000 in
set_option maxRecDepth 100000 in
theorem sum1_grow (A0 : Option Addr) (c0 : Nat) (l0 : List Int) (v0 : Int) (A1 : Option Addr) (c1 : Nat) (l1 : List Int) (v1 : Int) (w : World) (hr0 : Kd.C (Kd.int .i64) w A0 l0.length l0) (hc0 : l0.length ≤ c0) (hr1 : Kd.C (Kd.int .i64) w A1 l1.length l1) (hc1 : l1.length ≤ c1) (h0 : l0.length ≤ 1048576) (h1 : l1.length ≤ 1048576) :
  Calls Try.prog 146 #[.agg #[.slice A0 l0.length c0, .int .i64 v0], .agg #[.slice A1 l1.length c1, .int .i64 v1]] w fun e w' => e = .returned (.int .i64 (ordW l0 l1)) ∧ ∃ q os', w' = Sort.grow (w.drewN q) os' := by
 obtain ⟨k, hk⟩ := order_f l0 l1 h0 h1
 have HK := Aside0.mk hk
 have HR0 := Aside0.mk hr0
 have HC0 := Aside0.mk hc0
 have HR1 := Aside0.mk hr1
 have HC1 := Aside0.mk hc1
 have hu89 := Try.underlying89
 clear hr0 hc0 hr1 hc1 hk h0 h1
 go_enter Try.func146, Try.ntmps146
 go_wp2_with (first
  | (go_at_call 81; refine (wordOrder_grow k _ _ l0 _ _ l1 _ _ (Kd.C_alloc (Kd.C_alloc HR0.out _) _) HC0.out (Kd.C_alloc (Kd.C_alloc HR1.out _) _) HC1.out HK.out).mono ?_; rintro e w' ⟨rfl, n1, os1, rfl⟩))
 go_ret
 refine ⟨rfl, n1, #[.cells #[.slice A0 l0.length c0, .int .i64 v0] 89, .cells #[.slice A1 l1.length c1, .int .i64 v1] 89] ++ os1, ?_⟩
 rw [Sort.alloc_eq_grow, Sort.alloc_eq_grow, Sort.grow_grow]
 show Sort.grow (Sort.grow (w.drewN n1) _) os1 = _
 rw [Sort.grow_grow]
 rfl
theorem extract_all (d : Array Nat) (n : Nat) (h : d.size = n) : d.extract 0 n = d := by subst h; simp
set_option maxHeartbeats 1000000 in
set_option maxRecDepth 100000 in
theorem sortT_call {w : World} {base : Nat} {ok : Nat → Prop} {v : Value} {xs : List S89} (h : Kd.S k89 89 w base ok v xs) (hx : ∀ x ∈ xs, x.f0.length ≤ 1048576) (hn : xs.length ≤ 1048576) :
  Calls Try.prog 145 #[v, .func (.func 146) #[] #[]] w fun e w' => e = .returned (.tuple #[]) ∧ ∃ ys : List S89, ys.Perm xs ∧ (ys.Pairwise fun x y => befW y.f0 x.f0 = false) ∧ Kd.S k89 89 w' base ok v ys ∧ w.grownBy w' v.ownBlock := by
 have hS := h
 obtain ⟨f, h0, inner, ho, hr⟩ := h
 rw [List.length_zipIdx] at ho
 obtain ⟨hil, ho2⟩ := ho
 rcases ho2 with ⟨rfl, hz⟩ | ⟨g, cap, cur, rfl, hbase, hb, hle, hcap, hcs, hin⟩
 ·have e0 : xs = [] := List.eq_nil_of_length_eq_zero hz
  subst e0
  refine (AnyF.slices_SortFunc_none { sortT with } none 0 _ w).mono ?_
  rintro e w' ⟨rfl, rfl⟩
  exact ⟨rfl, [], List.Perm.refl _, List.Pairwise.nil, hS, ⟨rfl, rfl, rfl, Nat.le_refl _, fun _ _ _ => rfl⟩⟩
 by_cases hn0 : xs.length = 0
 ·have e0 : xs = [] := List.eq_nil_of_length_eq_zero hn0
  subst e0
  refine (AnyF.slices_SortFunc_none { sortT with } (some ⟨g, 0, none⟩) cap _ w).mono ?_
  rintro e w' ⟨rfl, rfl⟩
  exact ⟨rfl, [], List.Perm.refl _, List.Pairwise.nil, hS, ⟨rfl, rfl, rfl, Nat.le_refl _, fun _ _ _ => rfl⟩⟩
 have hcs' : cur.size = cap * 2 := hcs
 have hin' : cur.toList.take (xs.length * 2) = inner := hin
 have hcn : xs.length * 2 ≤ cur.size := by omega
 have hch : ∀ j, ∃ A' c', chunkAt 2 xs.length cur j = [.slice A' (xs.getD (min j (xs.length - 1)) z89).f0.length c', .int .i64 (xs.getD (min j (xs.length - 1)) z89).f1] ∧ (xs.getD (min j (xs.length - 1)) z89).f0.length ≤ c' ∧ (xs.getD (min j (xs.length - 1)) z89).f0.length ≤ 1048576 ∧
   ∀ w2 : World, (∀ k, k ≠ g → k < w.heap.size → w2.heap[k]? = w.heap[k]?) → Kd.C (Kd.int .i64) w2 A' (xs.getD (min j (xs.length - 1)) z89).f0.length (xs.getD (min j (xs.length - 1)) z89).f0 := by
  intro j
  obtain ⟨i, hi⟩ : ∃ i, i = min j (xs.length - 1) := ⟨_, rfl⟩
  have hi2 : i < xs.length := by omega
  unfold chunkAt
  rw [← hi]
  have hxi : xs.getD i z89 = xs[i] := by rw [List.getD_eq_getElem?_getD, List.getElem?_eq_getElem hi2]; rfl
  have hm := hr.2 i (xs[i], i) (by rw [List.getElem?_zipIdx, Nat.zero_add, List.getElem?_eq_getElem hi2]; rfl)
  have ec : (inner.drop (i * 2)).take 2 = (cur.toList.drop (i * 2)).take 2 := by
   rw [← hin', List.drop_take, List.take_take, Nat.min_eq_left (by omega)]
  obtain ⟨v0, hv0, hR⟩ := k89_openM (show k89.M w base _ xs[i] ((inner.drop (i * 2)).take 2) from hm)
  rw [ec] at hv0
  obtain ⟨A', c', rfl, hlc, _⟩ := Kd.R_reads hR
  refine ⟨A', c', by rw [hv0, hxi], by rw [hxi]; exact hlc, by rw [hxi]; exact hx _ (List.getElem_mem hi2), fun w2 hw2 => ?_⟩
  obtain ⟨A2, c2, he, _, hC⟩ := Kd.R_reads (Kd.R_step hR (w1 := w2) (fun k hk hlt => hw2 k (fun e_ => hk.1.2 (by rw [e_]; rfl)) hlt))
  injection he with he _ _
  subst he
  rw [hxi]
  exact hC
 have hcmp : CmpLays Try.prog 146 #[] (chunkAt 2 xs.length cur) 2 (fun x y => ordW (xs.getD (min x (xs.length - 1)) z89).f0 (xs.getD (min y (xs.length - 1)) z89).f0) g 0 (Array.range xs.length).size w := by
  intro m os dk hs x y
  obtain ⟨A1, c1, e1, l1, m1, r1⟩ := hch x
  obtain ⟨A2, c2, e2, l2, m2, r2⟩ := hch y
  have hg := sortWorld_grown (chunkAt 2 xs.length cur) 2 w g m dk os
  have hk : ∀ k, k ≠ g → k < w.heap.size → (sortWorldK (chunkAt 2 xs.length cur) 2 w g 0 m dk os).heap[k]? = w.heap[k]? := fun k hk hlt => hg.block k hlt (fun e_ => hk (Option.some.inj e_))
  rw [e1, e2]
  exact sum1_grow A1 c1 _ _ A2 c2 _ _ _ (r1 _ hk) l1 (r2 _ hk) l2 m1 m2
 have eg : ∀ args w, (callFunc 146 args).run Try.prog w = .ok (.enter 146 args) w := enters_of Try.func146 (by kernel_rfl) rfl
 have hcon := AnyQ.slices_SortFunc sortT 2 Try.isAgg89 Try.sizeOf89 (chunkAt 2 xs.length cur) (fun j => chunkAt_length (by omega) hcn)
  (fun j u hu => by
   obtain ⟨A', c', e', _⟩ := hch j
   rw [e'] at hu
   rcases List.mem_cons.1 hu with rfl | hu
   ·rfl
   rw [List.mem_singleton.1 hu]; rfl)
  (fun x y => ordW (xs.getD (min x (xs.length - 1)) z89).f0 (xs.getD (min y (xs.length - 1)) z89).f0) (swo_word fun x : Nat => (xs.getD (min x (xs.length - 1)) z89).f0) 146 #[] g 0 cap (Array.range xs.length) w eg hcmp (holds_start (by omega) hb hcn) (blk_lt hb) (by simp; omega)
 have hsz : (Array.range xs.length).size = xs.length := by simp
 rw [hsz] at hcon
 refine hcon.mono ?_
 rintro e w' ⟨rfl, d', m, os, ⟨hd1, _, hd2⟩, hd3, rfl⟩
 rw [hsz] at hd1
 rw [extract_all _ _ hd1, extract_all _ _ hsz] at hd2
 have hp : d'.toList.Perm (List.range xs.length) := by simpa using hd2
 have hlt : ∀ i, i < xs.length → d'[i]! < xs.length := by
  intro i hi
  rw [getElem!_pos d' i (by omega)]
  have : d'[i]'(by omega) ∈ d'.toList := by simp
  have := hp.mem_iff.1 this
  simpa using this
 obtain ⟨hg, cur', hb', hcz, hck⟩ := sortWorld_facts (m := m) (by omega : 0 < 2) hb hcn d' hd1 hlt os
 have hgx : ∀ i, (hi : i < xs.length) → xs.getD i z89 = xs[i] := fun i hi => by rw [List.getD_eq_getElem?_getD, List.getElem?_eq_getElem hi]; rfl
 refine ⟨rfl, d'.toList.map fun j => xs.getD j z89, ?_, ?_, ?_, hg⟩
 ·refine (hp.map _).trans ?_
  have : (List.range xs.length).map (fun j => xs.getD j z89) = xs := by
   apply List.ext_getElem
   ·simp
   intro i h1 h2
   rw [List.getElem_map, List.getElem_range]
   exact hgx i h2
  rw [this]
 ·rw [List.pairwise_iff_getElem]
  intro i j hi hj hij
  have hj2 : j < xs.length := by simp at hj; omega
  have hi2 : i < xs.length := by omega
  have := hd3 i j (Nat.zero_le _) hij hj2
  unfold ltOf at this
  have h3 := of_decide_eq_false this
  rw [ordW_lt] at h3
  have a1 := hlt i hi2
  have a2 := hlt j hj2
  rw [Nat.min_eq_left (by omega), Nat.min_eq_left (by omega)] at h3
  rw [List.getElem_map, List.getElem_map]
  have b1 : d'.toList[i]'(by simp; omega) = d'[i]! := by rw [getElem!_pos d' i (by omega)]; rfl
  have b2 : d'.toList[j]'(by simp; omega) = d'[j]! := by rw [getElem!_pos d' j (by omega)]; rfl
  rw [b1, b2]
  simpa using h3
 refine S_sorted z89 hS d'.toList hp (fun k hk hlt2 => hg.block k hlt2 (fun e_ => hk (Option.some.inj e_))) cur cur' hb hb' hcz ?_
 intro i j hij
 obtain ⟨hi, he⟩ := List.getElem?_eq_some_iff.1 hij
 have hi2 : i < d'.size := hi
 have b1 : d'[i]! = j := by rw [getElem!_pos d' i hi2]; exact he
 have := hck i (by omega)
 rw [b1] at this
 exact this
theorem law9 : Keyed Try.prog 9 := string_keyed Try.underlying9
theorem iter_ne_row {H : Type} {w : World} {P : Program} {k : TypeId} {R : Value → Option (DataW H × List MemPlace)} {b r n : Nat} {D : DataW H} {left : Lit → Bool} {cnt : Nat} {α : Type} {d : Kd α} {e base : Nat} {ok : Nat → Prop} {v : Value} {xs : List α} (h : w.ranges P k R b r n D left cnt) (hr : d.R e w base ok v xs) : some r ≠ v.ownBlock := by
 intro e_
 obtain ⟨inner, ho⟩ := Kd.R_own hr
 obtain ⟨cells, hc⟩ := own_typed ho r e_.symm
 obtain ⟨es, clock, since, seen, c0, _, _, _, _, hi, _⟩ := h
 rw [hi] at hc
 cases hc
theorem iter_ne_blk {H : Type} {w : World} {P : Program} {k : TypeId} {R : Value → Option (DataW H × List MemPlace)} {b r n g : Nat} {D : DataW H} {left : Lit → Bool} {cnt : Nat} {cs : Array Value} {t : Nat} (h : w.ranges P k R b r n D left cnt) (hb : w.heap[g]? = some (.cells cs t (0, 0))) : g ≠ r := by
 rintro rfl
 obtain ⟨es, clock, since, seen, c0, _, _, _, _, hi, _⟩ := h
 rw [hi] at hb
 cases hb
theorem map_size_le {w : World} {P : Program} {k : TypeId} {R : Value → Option (DataW Value × List MemPlace)} {b n : Nat} {D : DataW Value} (h : w.ownsMap P k R b n D) : Maps.size D ≤ n := by
 obtain ⟨es, clock, _, _, hs, rfl⟩ := h
 have : Maps.size (.map ((es.toList.map (WideElems.rg P k R)).foldr DataW.insert [])) = es.size := by simp [Maps.size, length_sorted]
 rw [this]; exact hs
structure AccOk (f : Lit → Option Value) (L : List S89) (left : Lit → Bool) (acc : List S89) : Prop where
 nd : acc.Pairwise fun x y => x.f0 ≠ y.f0
 mem : ∀ x ∈ acc, x ∈ L ∧ x.f1 ≠ 0 ∧ left (keyW x.f0) = false
 all : ∀ x ∈ L, x.f1 ≠ 0 → left (keyW x.f0) = false → x ∈ acc
 src : ∀ kl, left kl = true → (f kl).isSome = true
theorem AccOk.skip {f : Lit → Option Value} {L : List S89} {left : Lit → Bool} {acc : List S89} (h : AccOk f L left acc) (hs : SortedW L) (hw : ∀ x ∈ L, okW x.f0) {x : S89} (hx : x ∈ L) (h0 : x.f1 = 0) : AccOk f L (fun z => left z && !z.sameKey (keyW x.f0)) acc := by
 refine ⟨h.nd, fun y hy => ?_, fun y hy hy0 hl => ?_, fun kl hk => ?_⟩
 ·obtain ⟨h1, h2, h3⟩ := h.mem y hy
  exact ⟨h1, h2, by simp [h3]⟩
 ·by_cases e : left (keyW y.f0) = false
  ·exact h.all y hy hy0 e
  have e2 : (keyW y.f0).sameKey (keyW x.f0) = true := by
   cases c : (keyW y.f0).sameKey (keyW x.f0)
   ·simp [c] at hl
    exact absurd hl e
   rfl
  have e3 := keyW_inj (hw y hy) (hw x hx) (WideAt.sameKey_eq e2)
  have e4 := valA_mem hs hy
  rw [e3, valA_mem hs hx] at e4
  exact absurd (e4.symm.trans h0) hy0
 simp at hk
 exact h.src kl hk.1
theorem AccOk.take {f : Lit → Option Value} {L : List S89} {left : Lit → Bool} {acc : List S89} (h : AccOk f L left acc) (hs : SortedW L) (hw : ∀ x ∈ L, okW x.f0) {x : S89} (hx : x ∈ L) (h0 : x.f1 ≠ 0) (hl0 : left (keyW x.f0) = true) : AccOk f L (fun z => left z && !z.sameKey (keyW x.f0)) (acc ++ [x]) := by
 refine ⟨?_, fun y hy => ?_, fun y hy hy0 hl => ?_, fun kl hk => ?_⟩
 ·rw [List.pairwise_append]
  refine ⟨h.nd, List.pairwise_singleton _ _, fun y hy z hz e => ?_⟩
  rw [List.mem_singleton] at hz
  subst hz
  have := (h.mem y hy).2.2
  rw [e, hl0] at this
  cases this
 ·rcases List.mem_append.1 hy with hy | hy
  ·obtain ⟨h1, h2, h3⟩ := h.mem y hy
   exact ⟨h1, h2, by simp [h3]⟩
  rw [List.mem_singleton] at hy
  subst hy
  exact ⟨hx, h0, by simp [WideAt.sameKey_self (keyW_isKey _)]⟩
 ·by_cases e : left (keyW y.f0) = false
  ·exact List.mem_append_left _ (h.all y hy hy0 e)
  have e2 : (keyW y.f0).sameKey (keyW x.f0) = true := by
   cases c : (keyW y.f0).sameKey (keyW x.f0)
   ·simp [c] at hl
    exact absurd hl e
   rfl
  have e3 := keyW_inj (hw y hy) (hw x hx) (WideAt.sameKey_eq e2)
  have e4 := valA_mem hs hy
  rw [e3, valA_mem hs hx] at e4
  have e5 : y = x := by
   cases x; cases y
   simp only at e3 e4
   rw [e3, e4]
  rw [e5]
  exact List.mem_append_right _ (List.mem_singleton.2 rfl)
 simp at hk
 exact h.src kl hk.1
theorem AccOk.done {f : Lit → Option Value} {L : List S89} {left : Lit → Bool} {acc ys : List S89} (h : AccOk f L left acc) (hs : SortedW L) (hl : ∀ kl, left kl = false) (hp : ys.Perm acc) (hy : ys.Pairwise fun x y => befW y.f0 x.f0 = false) : ys = L.filter fun x => x.f1 != 0 := by
 have hd : ys.Pairwise fun x y => x.f0 ≠ y.f0 := (hp.pairwise_iff (fun {_ _} h => Ne.symm h)).2 h.nd
 refine sortedW_eq ?_ (List.Pairwise.filter _ hs) fun x => ?_
 ·refine (hd.and hy).imp ?_
  rintro x y ⟨h1, h2⟩
  cases e : befW x.f0 y.f0
  ·exact absurd (befW_tri e h2) h1
  rfl
 rw [hp.mem_iff, List.mem_filter]
 constructor
 ·intro hx
  have := h.mem x hx
  exact ⟨this.1, by simpa using this.2.1⟩
 rintro ⟨h1, h2⟩
 exact h.all x h1 (by simpa using h2) (hl _)
def impl_gather_sum.T6 : Bool × List (List Nat × List Nat) := (true, [([], []), ([0], [0]), ([], []), ([2], [2]), ([3], [3]), ([], []), ([5], [5]), ([4, 6], [4, 6]), ([7], [7]), ([1, 8, 4], [1, 8]), ([0, 1, 2, 3, 4, 5, 6, 7, 8, 9], []), ([10, 9, 9, 0, 1, 2, 3, 4, 5, 6, 7, 8, 9], [9, 10])])
def impl_gather_sum.B6 : List Nat := [0, 1, 0, 4, 12, 0, 32, 124, 252, 511, 1023, 2047]
theorem impl_gather_sum.tab6 : rtab .any (opsOf Try.f127 6) = impl_gather_sum.T6 := by kernel_rfl
theorem impl_gather_sum.bits6 : waitsOk impl_gather_sum.T6.2 impl_gather_sum.B6 = true := by kernel_rfl
set_option maxHeartbeats 4000000 in
set_option maxRecDepth 100000 in
theorem impl_gather_sum.calls (g : Nat) (p : Int) (b n : Nat) (L : List S89) (w : World) (hG : Gath w g p b n L) (hn : n ≤ 1048576) :
  Calls Try.prog 127 #[.pointer (some ⟨g, 0, none⟩)] w fun e w' => ∃ v, e = .returned (.agg #[.int .i64 p, v]) ∧ Kd.S k89 89 w' w.heap.size (fun _ => True) v (L.filter fun x => x.f1 != 0) ∧ Below w.heap.size w w' := by
 have hu49 := Try.underlying49
 have hu89 := Try.underlying89
 have hu136 := Try.underlying136
 have hp0 : w.cell? ⟨g, 0, none⟩ = some (.int .i64 p) := (blk_cell hG.box 0).trans rfl
 have hp1 : w.cell? ⟨g, 1, none⟩ = some (.map (some b)) := (blk_cell hG.box 1).trans rfl
 have hgl := blk_lt hG.box
 obtain ⟨D, f, hown, hD, hT⟩ := hG.map
 have HG := Aside0.mk hG
 have HN := Aside0.mk hn
 have MN := Aside0.mk (map_size_le hown)
 have HD := Aside0.mk hD
 have HTI := Aside0.mk hT
 have hown2 := (hown.alloc (.cells #[.int .i64 0, .slice none 0 0] 49)).alloc (.cells #[.int .i64 p, .slice none 0 0] 49)
 have KR0 := Aside0.mk (blk_alloc (blk_new w (.cells #[.int .i64 0, .slice none 0 0] 49)) (.cells #[.int .i64 p, .slice none 0 0] 49))
 have KO0 := Aside0.mk (blk_new (w.alloc (.cells #[.int .i64 0, .slice none 0 0] 49)) (.cells #[.int .i64 p, .slice none 0 0] 49))
 have HB0 := Aside0.mk (below_alloc (below_alloc (Below.refl w.heap.size w) (.cells #[.int .i64 0, .slice none 0 0] 49)) (.cells #[.int .i64 p, .slice none 0 0] 49))
 have hz1 : (w.alloc (.cells #[.int .i64 0, .slice none 0 0] 49)).heap.size = w.heap.size + 1 := by simp
 rw [hz1] at KO0
 clear hG hn hown hD hT hz1
 go_enter Try.func127, Try.ntmps127
 go_wp2_with (first
  | (at_range; refine wpList_range_own _ rfl _ 134 rfl 9 89 law9 Try.underlying134 _ b n D rfl hown2 ?_; intro w0 hrg0 hg0 hs0)
  | go_in)
 go_frame
 generalize hwo : (w.alloc (.cells #[.int .i64 0, .slice none 0 0] 49)).alloc (.cells #[.int .i64 p, .slice none 0 0] 49) = wo at KR0 KO0 HB0 hown2 hrg0 hg0 hs0 ⊢
 clear hwo hown2
 obtain ⟨BO, hBO⟩ : ∃ x, x = w.heap.size + 1 := ⟨_, rfl⟩
 obtain ⟨BR, hBR⟩ : ∃ x, x = w.heap.size := ⟨_, rfl⟩
 have hne : BR ≠ BO := by omega
 have hne' : BO ≠ BR := by omega
 have gR : w.heap.size ≤ BR := by omega
 have gO : w.heap.size ≤ BO := by omega
 rw [← hBO] at KO0 ⊢
 rw [show wo.heap[w.heap.size]? = wo.heap[BR]? by rw [hBR]] at KR0
 rw [show (Value.pointer (some ⟨w.heap.size, 0, none⟩)) = Value.pointer (some ⟨BR, 0, none⟩) by rw [hBR]]
 have gR1 : BR < w.heap.size + 1 := by omega
 clear hBO hBR
 go_loopw [16] (fun _ wr => ∃ (left : Lit → Bool) (cnt : Nat) (acc : List S89) (u : Value), Aside0 (wr.ranges Try.prog 9 heldR b wo.heap.size n D left cnt) ∧ Aside0 (Below w.heap.size w wr) ∧ Aside0 (wr.heap[BR]? = some (.cells #[.int .i64 0, .slice none 0 0] 49 (0, 0))) ∧ Aside0 (wr.heap[BO]? = some (.cells #[.int .i64 p, u] 49 (0, 0))) ∧ Aside0 (Kd.S k89 89 wr w.heap.size (fun _ => True) u acc) ∧ Aside0 (AccOk f L left acc) ∧ Aside0 (acc.length + cnt ≤ Maps.size D)) (fun _ wr => wr.rangeLeft b wo.heap.size)
 case atStart => exact ⟨_, _, [], .slice none 0 0, ⟨hrg0⟩, ⟨HB0.out.grown hg0 HB0.out.size (fun j hj => by cases hj)⟩, ⟨(hg0.block BR (blk_lt KR0.out) (by simp)).trans KR0.out⟩, ⟨(hg0.block BO (blk_lt KO0.out) (by simp)).trans KO0.out⟩, ⟨Kd.S_nil _ _ _ _ _⟩, ⟨⟨List.Pairwise.nil, fun x hx => (List.not_mem_nil hx).elim, fun x hx _ hl => (by
   obtain ⟨A, c, h1, _⟩ := HTI.out.1 x hx
   rw [HD.out.2.2, h1] at hl
   cases hl), fun kl hk => by rw [← HD.out.2.2]; exact hk⟩⟩, ⟨by simp⟩⟩
 case round =>
  obtain ⟨left, cnt, acc, u, HRG, HB, KR, KO, HS, HA, CNT⟩ := hrel
  have hrg := HRG.out
  go_wp2_with (first
   | (at_next; refine wpList_next_ranges _ rfl _ rfl 9 law9 heldR Value.string (fun v : Value => v) (fun key kl hk => by obtain ⟨s, h1, _⟩ := WideMaps.string_of_keyOf Try.underlying9 hk; exact ⟨s, h1⟩) (fun v y _ => ⟨v, rfl⟩) b wo.heap.size n _ _ _ rfl hrg ?_ ?_)
   | go_in)
  ·intro _ hl0
   have hw0 : wr.cell? ⟨BO, 0, none⟩ = some (.int .i64 p) := (blk_cell KO.out 0).trans rfl
   have hw1 : wr.cell? ⟨BO, 1, none⟩ = some u := (blk_cell KO.out 1).trans rfl
   go_wp2_with fail
   have HL0 := Aside0.mk hl0
   clear hl0 hw0 hw1
   refine (sortT_call HS.out (fun x hx => (HG.out.words x (HA.out.mem x hx).1).1) (by have := CNT.out; have := MN.out; have := HN.out; omega)).mono ?_
   rintro e w2 ⟨rfl, ys, hp, hy, hS2, hg2⟩
   have EY := Aside0.mk (HA.out.done HG.out.sorted HL0.out hp hy)
   have KR2 := Aside0.mk (blk_grown (g := BR) KR.out hg2 (Kd.S_ne HS.out KR.out (by decide)))
   have KO2 := Aside0.mk (blk_grown (g := BO) KO.out hg2 (Kd.S_ne HS.out KO.out (by decide)))
   have HB2 := Aside0.mk (HB.out.grown hg2 HB.out.size (fun j hj => Kd.S_base HS.out j hj))
   have HS2 := Aside0.mk hS2
   clear hp hy hS2 hg2 HS KR KO HB
   have hw0 : w2.cell? ⟨BO, 0, none⟩ = some (.int .i64 p) := (blk_cell KO2.out 0).trans rfl
   have hw1 : w2.cell? ⟨BO, 1, none⟩ = some u := (blk_cell KO2.out 1).trans rfl
   have hq0 : w2.cell? ⟨BR, 0, none⟩ = some (.int .i64 0) := (blk_cell KR2.out 0).trans rfl
   have hq1 : w2.cell? ⟨BR, 1, none⟩ = some (.slice none 0 0) := (blk_cell KR2.out 1).trans rfl
   have hf0 := blk_frozen KR2.out 0
   have hf1 := blk_frozen KR2.out 1
   obtain ⟨Au, cu, eu⟩ := Kd.S_slice HS2.out
   subst eu
   go_wp2
   refine bodyPost_ret (results_cell_row rfl _ _ BR 49 #[.int .i64 p, .slice Au ys.length cu] (0, 0) _ rfl (by refine blk_put (cs := #[.int .i64 p, .slice none 0 0]) ?_ 1 _ rfl; refine blk_put (cs := #[.int .i64 0, .slice none 0 0]) ?_ 0 _ rfl; exact KR2.out) Try.underlying49 rfl (by kernel_rfl)) rfl ?_
   refine ⟨_, rfl, ?_, below_set (below_set HB2.out gR) gR⟩
   rw [← EY.out]
   exact Kd.S_set (Kd.S_set HS2.out KR2.out (by decide) 0 _) (blk_put KR2.out 0 _ rfl) (by decide) 1 _
  intro kx cx kl y1 y2 w1 cnt1 hkey hlk hv hat hrg1 hlt1 hg1 hs1 hen
  have hy1 : y1 = .held cx := by unfold heldR at hv; injection hv with hv; injection hv with hv _; exact hv.symm
  subst hy1
  have hfs := HA.out.src kl hlk
  have hat1 := hat (.held zT)
  rw [HD.out.2.1] at hat1
  have hat2 : (f kl).getD zT = cx := by injection hat1
  obtain ⟨cx', hfc⟩ := Option.isSome_iff_exists.1 hfs
  rw [hfc] at hat2
  have hcx : cx' = cx := hat2
  subst hcx
  obtain ⟨x, hx, hkl⟩ := HTI.out.2 kl cx' hfc
  subst hkl
  obtain ⟨A, c, hfx, hlc, hCx⟩ := HTI.out.1 x hx
  rw [hfc] at hfx
  obtain rfl := Option.some.inj hfx
  have RX := Aside0.mk hCx
  have LX := Aside0.mk hlc
  have HX := Aside0.mk hx
  have HKL := Aside0.mk hlk
  have HRG1 := Aside0.mk hrg1
  have HLT := Aside0.mk hlt1
  have hold : Below wo.heap.size wr w1 := ⟨hg1.os, hg1.tape, hg1.output, hg1.size, fun k_ hk_ => hg1.block k_ (by have := hrg.lt; omega) (fun e_ => by have := Option.some.inj e_; omega)⟩
  have KR1 := Aside0.mk ((hg1.block BR (blk_lt KR.out) (fun e_ => iter_ne_blk hrg KR.out (Option.some.inj e_))).trans KR.out)
  have KO1 := Aside0.mk ((hg1.block BO (blk_lt KO.out) (fun e_ => iter_ne_blk hrg KO.out (Option.some.inj e_))).trans KO.out)
  have HB1 := Aside0.mk (HB.out.grown hg1 HB.out.size (fun j hj => by cases hj; exact HB0.out.size))
  have HS1 := Aside0.mk (Kd.S_mono (Kd.S_grown (Kd.S_bound HS.out) hg1 (fun k_ hk_ e_ => by
   obtain ⟨_, _, _, q_, _, cells_, hc_⟩ := hk_
   exact iter_ne_blk hrg hc_ (Option.some.inj e_))) (fun _ hk_ => trivial : ∀ k_, _ → True))
  have HF : Aside0 (slices_Clone_int64_int64.f x.f0 = some x.f0) := ⟨by have := (HG.out.words x hx).1; unfold slices_Clone_int64_int64.f; rw [if_pos (by omega)]⟩
  clear hs1 hkey hlk hv hat hrg1 hlt1 hg1 hfs hat1 hfc hfx hlc hCx hx hold KR KO HB HS
  by_cases h0 : x.f1 = 0
  ·have HA2 := Aside0.mk (HA.out.skip HG.out.sorted HG.out.words HX.out h0)
   have hc0 : (x.f1 != 0) = false := by simp [h0]
   clear h0
   go_wp2
   go_roundw
   case rel => exact ⟨_, cnt1, acc, u, ⟨HRG1.out.alloc _⟩, ⟨below_alloc HB1.out _⟩, ⟨blk_alloc KR1.out _⟩, ⟨blk_alloc KO1.out _⟩, ⟨Kd.S_alloc HS1.out _⟩, HA2, ⟨by have := CNT.out; have := HLT.out; omega⟩⟩
   case measure => rw [(HRG1.out.alloc _).left_eq, hrg.left_eq]; exact HLT.out
  have HA2 := Aside0.mk (HA.out.take HG.out.sorted HG.out.words HX.out h0 HKL.out)
  have hc0 : (x.f1 != 0) = true := by simp [h0]
  clear h0
  obtain ⟨yy, hyy⟩ : ∃ y_ : List S89, y_ = acc ++ [x] := ⟨_, rfl⟩
  have NY := Aside0.mk hyy
  have HA3 : Aside0 (AccOk f L _ yy) := ⟨by rw [NY.out]; exact HA2.out⟩
  have NL : Aside0 (yy.length = acc.length + 1) := ⟨by rw [NY.out]; simp⟩
  clear hyy HA2
  go_wp2_with fail
  have KT3 := Aside0.mk (blk_new w1 (.cells #[.slice A x.f0.length c, .int .i64 x.f1] 89))
  have KR3 := Aside0.mk (blk_alloc KR1.out (.cells #[.slice A x.f0.length c, .int .i64 x.f1] 89))
  have KO3 := Aside0.mk (blk_alloc KO1.out (.cells #[.slice A x.f0.length c, .int .i64 x.f1] 89))
  have HB3 := Aside0.mk (below_alloc HB1.out (.cells #[.slice A x.f0.length c, .int .i64 x.f1] 89))
  have HRG3 := Aside0.mk (HRG1.out.alloc (.cells #[.slice A x.f0.length c, .int .i64 x.f1] 89))
  have HS3 := Aside0.mk (Kd.S_mono (Kd.S_alloc (Kd.S_bound HS1.out) (.cells #[.slice A x.f0.length c, .int .i64 x.f1] 89)) (fun k_ hk_ => (by have := hk_.2.2.1; omega : k_ ≠ w1.heap.size)))
  have hnT1 : w1.heap.size ≠ BO := by have := blk_lt KO1.out; omega
  have hnT2 : w1.heap.size ≠ BR := by have := blk_lt KR1.out; omega
  clear HS1 KR1 KO1 HB1
  generalize w1.alloc (.cells #[.slice A x.f0.length c, .int .i64 x.f1] 89) = w3 at KT3 KR3 KO3 HB3 HRG3 HS3 ⊢
  generalize w1.heap.size = TB at KT3 HS3 hnT1 hnT2 ⊢
  have hnO := hnT1.symm
  have hnR := hnT2.symm
  have HS := Aside0.mk (Kd.S_drew HS3.out)
  have KR := Aside0.mk (blk_drew KR3.out)
  have KO := Aside0.mk (blk_drew KO3.out)
  have KT := Aside0.mk (blk_drew KT3.out)
  have HB := Aside0.mk (below_drew1 HB3.out)
  have HRG0 := Aside0.mk (HRG3.out.kept (w' := w3.drew) (row := none) ⟨rfl, rfl, rfl, Nat.le_refl _, fun _ _ _ => rfl⟩ (by simp) (by simp))
  clear HRG
  have HRG := HRG0
  clear HRG0 HS3 KR3 KO3 KT3 HB3 HRG3
  refine start_ (n := 12) (S := fun w' => w'.cell? ⟨BO, 0, none⟩ = some (.int .i64 p) ∧ w'.cell? ⟨BO, 1, none⟩ = some u ∧ w'.cell? ⟨TB, 0, none⟩ = some (.slice A x.f0.length c) ∧ w'.cell? ⟨TB, 1, none⟩ = some (.int .i64 x.f1)) (ds := [11]) #[false, false, false, false, false, false, false, false, false, false, false, false] (by kernel_rfl) rfl rfl ⟨(blk_cell KO.out 0).trans rfl, (blk_cell KO.out 1).trans rfl, (blk_cell KT.out 0).trans rfl, (blk_cell KT.out 1).trans rfl⟩ (fun hHeld => ?_)
  refine with_tabW impl_gather_sum.tab6 impl_gather_sum.bits6 (fun HT_ HW_ => ?_)
  generalize w3.drew = w4 at HS KR KO KT HB HRG hHeld ⊢
  refine pure_ (i := 0) (N := some 23) (v := ?_) (a' := ?_) (bv 12 1) rfl rfl (any_of HT_.out (by kernel_rfl)) (fun _ _ _ h => h) (Or.inl ⟨by rfl, ?_⟩) ?_ ?_
  rotate_left
  ·intro w'
   go_simp
   with_reducible rfl
  rotate_left
  ·simp only [Act.put, sA, sZ, sS, i64_w, i32_w]
   rfl
  refine pure_ (i := 2) (N := some 25) (v := ?_) (a' := ?_) (bv 12 5) rfl rfl (any_of HT_.out (by kernel_rfl)) (fun _ _ _ h => h) (Or.inl ⟨by rfl, ?_⟩) ?_ ?_
  rotate_left
  ·intro w'
   go_simp
   with_reducible rfl
  rotate_left
  ·simp only [Act.put, sA, sZ, sS, i64_w, i32_w]
   rfl
  refine pure_ (i := 5) (N := some 28) (v := ?_) (a' := ?_) (bv 12 37) rfl rfl (any_of HT_.out (by kernel_rfl)) (fun _ _ _ h => h) (Or.inl ⟨by rfl, ?_⟩) ?_ ?_
  rotate_left
  ·intro w'
   go_simp
   with_reducible rfl
  rotate_left
  ·simp only [Act.put, sA, sZ, sS, i64_w, i32_w]
   rfl
  refine take_ (i := 1) (N := some 24) (v := ?_) (a' := ?_) (bv 12 39) rfl rfl (take_ofW HT_.out HW_.out (by kernel_rfl)) (fun _ _ _ h => h) (Or.inl ⟨by rfl, ?_⟩) hHeld ?_ ?_
  rotate_left
  ·rintro w' ⟨s0, s1, s2, s3⟩
   go_simp
   with_reducible rfl
  rotate_left
  ·simp only [Act.put, sA, sZ, sS, i64_w, i32_w]
   rfl
  refine take_ (i := 3) (N := some 26) (v := ?_) (a' := ?_) (bv 12 47) rfl rfl (take_ofW HT_.out HW_.out (by kernel_rfl)) (fun _ _ _ h => h) (Or.inl ⟨by rfl, ?_⟩) hHeld ?_ ?_
  rotate_left
  ·rintro w' ⟨s0, s1, s2, s3⟩
   go_simp
   with_reducible rfl
  rotate_left
  ·simp only [Act.put, sA, sZ, sS, i64_w, i32_w]
   rfl
  refine take_ (i := 6) (N := some 29) (v := ?_) (a' := ?_) (bv 12 111) rfl rfl (take_ofW HT_.out HW_.out (by kernel_rfl)) (fun _ _ _ h => h) (Or.inl ⟨by rfl, ?_⟩) hHeld ?_ ?_
  rotate_left
  ·rintro w' ⟨s0, s1, s2, s3⟩
   go_simp
   with_reducible rfl
  rotate_left
  ·simp only [Act.put, sA, sZ, sS, i64_w, i32_w]
   rfl
  refine one_ (i := 4) (N := some 27) (bv 12 127) rfl rfl (one_of HT_.out (by kernel_rfl)) (by decide) (fun K hK => ?_)
  refine goes_ Try.func144 (by kernel_rfl) rfl #[.slice A x.f0.length c] (by rfl) rfl rfl (by simp only [List.map_toArray, List.map_cons, List.map_nil]; rfl) ?_
  with_reducible refine (slices_Clone_int64_int64.calls _ _ x.f0 x.f0 _ (Kd.C_below RX.out HB.out) LX.out HF.out).mono ?_
  rintro e w5 ⟨v5, rfl, ho5, hb5⟩
  refine ⟨_, rfl, ?_⟩
  have S5 := Aside0.mk (Kd.S_elder' HS.out (Kd.R_base ho5) hb5)
  have R5 := Aside0.mk (Kd.R_lower ho5 HB.out.size)
  have KR5 := Aside0.mk (blk_below KR.out hb5)
  have KO5 := Aside0.mk (blk_below KO.out hb5)
  have KT5 := Aside0.mk (blk_below KT.out hb5)
  have HB5 := Aside0.mk (below_step HB.out hb5)
  have HRG5 := Aside0.mk (HRG.out.kept (row := none) ⟨hb5.os, hb5.tape, hb5.output, hb5.size, fun k_ hk_ _ => hb5.block k_ hk_⟩ (by simp) (by simp))
  clear HS KR KO KT HB HRG ho5 hb5
  obtain ⟨A5, c5, e5⟩ := Kd.R_slice R5.out
  subst e5
  refine hK.out _ _ ⟨(blk_cell KO5.out 0).trans rfl, (blk_cell KO5.out 1).trans rfl, (blk_cell KT5.out 0).trans rfl, (blk_cell KT5.out 1).trans rfl⟩ (fun hHeld => ?_)
  clear hK K
  refine norm_ (a' := ?_) ?_ ?_
  rotate_left
  ·show Act.put _ (some 27) _ = _
   simp only [Act.put, sA, sZ, sS, i64_w, i32_w]
   rfl
  refine pure_ (i := 7) (N := some 30) (v := ?_) (a' := ?_) (bv 12 255) rfl rfl (any_of HT_.out (by kernel_rfl)) (fun _ _ _ h => h) (Or.inl ⟨by rfl, ?_⟩) ?_ ?_
  rotate_left
  ·intro w'
   go_simp
   with_reducible rfl
  rotate_left
  ·simp only [Act.put, sA, sZ, sS, i64_w, i32_w]
   rfl
  refine one_ (i := 8) (N := some 31) (bv 12 511) rfl rfl (one_of HT_.out (by kernel_rfl)) (by decide) (fun K hK => ?_)
  refine value_ (w1 := ?_) (v := ?_) (by rfl) rfl ?_ ?_
  rotate_left 2
  ·go_simp
   constructor
   ·rfl
   rfl
  refine hK.out _ _ ⟨(blk_cell (blk_alloc KO5.out _) 0).trans rfl, (blk_cell (blk_alloc KO5.out _) 1).trans rfl, (blk_cell (blk_alloc KT5.out _) 0).trans rfl, (blk_cell (blk_alloc KT5.out _) 1).trans rfl⟩ (fun hHeld => ?_)
  clear hK K
  refine norm_ (a' := ?_) ?_ ?_
  rotate_left
  ·show Act.put _ (some 31) _ = _
   simp only [Act.put, sA, sZ, sS, i64_w, i32_w]
   rfl
  refine one_ (i := 9) (N := some 32) (bv 12 1023) rfl rfl (one_of HT_.out (by kernel_rfl)) (by decide) (fun K hK => ?_)
  refine Kd.S_append_step k89 (w0 := w) w.heap.size (by rfl) (.tmp 24) (.tmp 31) 47 89 (.agg #[(.slice none 0 0), (.int .i64 0)]) 32 rfl Try.underlying47 info89 rfl (by decide) (by omega) u acc x [.slice A5 x.f0.length c5, .int .i64 x.f1] (fun k_ => k_ ≠ TB) (fun k_ => some k_ = (.slice A5 x.f0.length c5 : Value).ownBlock) rfl rfl ?aP (fun k_ hk_ => ((Kd.R_mono (ok' := fun k_ => (k_ ≠ TB) ∧ some k_ ≠ u.ownBlock) (Kd.R_types (Kd.R_apart' R5.out (Kd.S_typed S5.out) (by decide)) KT5.out (by decide)) (fun k_ hk => ⟨hk.2, hk.1.2⟩))).1 k_ hk_.symm) ?aF ?aO ?aB ?aS ?aL ?_
  (case aP => exact k89_mkM _ _ _ x (Kd.R_mono (Kd.R_tight rfl (Kd.R_mono (ok' := fun k_ => (k_ ≠ TB) ∧ some k_ ≠ u.ownBlock) (Kd.R_types (Kd.R_apart' R5.out (Kd.S_typed S5.out) (by decide)) KT5.out (by decide)) (fun k_ hk => ⟨hk.2, hk.1.2⟩))) (fun _ h_ => h_)))
  (case aB => exact HB5.out)
  (case aF => exact (fun k_ hk => Kd.freshB (g := TB) (o := .cells #[.slice A x.f0.length c, .int .i64 x.f1] 89 (0, 0)) KT5.out k_ hk))
  (case aO => exact Kd.S_mono S5.out (fun k_ hk => ⟨hk.1, fun e_ => hk.2 e_⟩))
  (case aS => exact below_size HB5.out)
  (case aL => have := CNT.out; have := MN.out; have := HN.out; omega)
  intro v7 w7 ho7 hb7 hg7 hat7
  rw [← NY.out] at ho7
  have KR7 := Aside0.mk (blk_grown (g := BR) KR5.out hg7 (Kd.S_ne S5.out KR5.out (by decide)))
  have KO7 := Aside0.mk (blk_grown (g := BO) KO5.out hg7 (Kd.S_ne S5.out KO5.out (by decide)))
  have KT7 := Aside0.mk (blk_grown (g := TB) KT5.out hg7 (Kd.S_away S5.out (fun _ hk => hk.1)))
  have HB7 := Aside0.mk hb7
  have S7 := Aside0.mk ho7
  have HRG7 := Aside0.mk (HRG5.out.kept hg7 (map_ne_row HRG5.out.owns (Kd.S_R S5.out)) (iter_ne_row HRG5.out (Kd.S_R S5.out)))
  clear KR5 KO5 KT5 HB5 S5 R5 HRG5 ho7 hb7 hg7 hat7
  obtain ⟨A7, c7, e7⟩ := Kd.S_slice S7.out
  subst e7
  refine hK.out _ _ ⟨(blk_cell KO7.out 0).trans rfl, (blk_cell KO7.out 1).trans rfl, (blk_cell KT7.out 0).trans rfl, (blk_cell KT7.out 1).trans rfl⟩ (fun hHeld => ?_)
  clear hK K
  refine norm_ (a' := ?_) ?_ ?_
  rotate_left
  ·show Act.put _ (some 32) _ = _
   simp only [Act.put, sA, sZ, sS, i64_w, i32_w]
   rfl
  refine pure_ (i := 10) (N := some 33) (v := ?_) (a' := ?_) (bv 12 2047) rfl rfl (any_of HT_.out (by kernel_rfl)) (fun _ _ _ h => h) (Or.inl ⟨by rfl, ?_⟩) ?_ ?_
  rotate_left
  ·intro w'
   go_simp
   with_reducible rfl
  rotate_left
  ·simp only [Act.put, sA, sZ, sS, i64_w, i32_w]
   rfl
  refine last_ (i := 11) (N := none) (bv 12 4095) rfl rfl (one_of HT_.out (by kernel_rfl)) (by decide) (fun K hK => ?_)
  have hs8 : w7.cell? ⟨BO, 1, none⟩ = some u := (blk_cell KO7.out 1).trans rfl
  have hf8 := blk_frozen KO7.out 1
  refine skip_ (w1 := ?_) (by rfl) rfl ?_ ?_
  rotate_left
  ·go_simp
   rfl
  refine hK.out _ _ ?_
  clear hK K
  refine done_ (done_of HT_.out (by kernel_rfl)) ?_
  try go_wp2
  go_roundw
  case rel => exact ⟨_, cnt1, yy, _, ⟨HRG7.out.kept (w' := w7.setCell ⟨BO, 1, none⟩ _) (row := some BO) ⟨rfl, rfl, rfl, by simp [World.setCell], fun k_ hk_ hne_ => Below.heap_setCell _ _ _ _ (fun e_ => hne_ (by rw [e_]))⟩ (fun e_ => map_ne_blk HRG7.out.owns KO7.out (Option.some.inj e_)) (fun e_ => iter_ne_blk HRG7.out KO7.out (Option.some.inj e_).symm)⟩, ⟨below_set HB7.out gO⟩, ⟨blk_far KR7.out hne _⟩, ⟨blk_put KO7.out 1 _ rfl⟩, ⟨Kd.S_mono (Kd.S_set S7.out KO7.out (by decide) 1 _) (fun _ _ => trivial)⟩, HA3, ⟨by have := CNT.out; have := HLT.out; have := NL.out; omega⟩⟩
  case measure =>
   have e1 : (w7.setCell ⟨BO, 1, none⟩ (.slice A7 yy.length c7)).rangeLeft b wo.heap.size = cnt1 := (HRG7.out.kept (w' := w7.setCell ⟨BO, 1, none⟩ _) (row := some BO) ⟨rfl, rfl, rfl, by simp [World.setCell], fun k_ hk_ hne_ => Below.heap_setCell _ _ _ _ (fun e_ => hne_ (by rw [e_]))⟩ (fun e_ => map_ne_blk HRG7.out.owns KO7.out (Option.some.inj e_)) (fun e_ => iter_ne_blk HRG7.out KO7.out (Option.some.inj e_).symm)).left_eq
   have e2 := hrg.left_eq
   have := HLT.out
   omega
def nzT (L : List S89) : List S89 := L.filter fun x => x.f1 != 0
def impl_single.f (a0 : Int) (l1 : List Int) (a2 : Int) : Option (Int × List S89) := if (0 < a0 ∧ a0 ≤ 1000) ∧ (l1.length ≤ 1048576 ∧ ∀ x ∈ l1, 0 ≤ x ∧ x < 100) ∧ (-1000000 ≤ a2 ∧ a2 ≤ 1000000) then some (a0, nzT (putZ a0 [] l1 a2)) else none
set_option maxHeartbeats 4000000 in
set_option maxRecDepth 100000 in
theorem impl_single.calls (a0 : Int) (A1 : Option Addr) (c1 : Nat) (l1 : List Int) (a2 : Int) (r1 : Int) (r2 : List S89) (w : World) (hr1 : Kd.C (Kd.int .i64) w A1 l1.length l1) (hc1 : l1.length ≤ c1) (h : impl_single.f a0 l1 a2 = some (r1, r2)) :
  Calls Try.prog 88 #[.int .i64 a0, .slice A1 l1.length c1, .int .i64 a2] w fun e w' => ∃ v1_ : Value, e = .returned (.agg #[.int .i64 r1, v1_]) ∧ Kd.S k89 89 w' w.heap.size (fun _ => True) v1_ r2 ∧ Below w.heap.size w w' := by
 unfold impl_single.f at h
 by_cases hc : (0 < a0 ∧ a0 ≤ 1000) ∧ (l1.length ≤ 1048576 ∧ ∀ x ∈ l1, 0 ≤ x ∧ x < 100) ∧ (-1000000 ≤ a2 ∧ a2 ≤ 1000000)
 case neg =>
  rw [if_neg hc] at h
  cases h
 rw [if_pos hc] at h
 injection h with h
 injection h with e1 e2
 subst e1 e2
 have hu49 := Try.underlying49
 have HC := Aside0.mk hc
 have HR1 := Aside0.mk hr1
 have HC1 := Aside0.mk hc1
 have KR0 := Aside0.mk (blk_new w (.cells #[.int .i64 0, .slice none 0 0] 49))
 have HB0 := Aside0.mk (below_alloc (Below.refl w.heap.size w) (.cells #[.int .i64 0, .slice none 0 0] 49))
 have HS0 : Aside0 ((w.alloc (.cells #[.int .i64 0, .slice none 0 0] 49)).heap.size = w.heap.size + 1) := ⟨by simp⟩
 clear hc hr1 hc1
 go_enter Try.func88, Try.ntmps88
 go_wp2_with fail
 generalize w.alloc (.cells #[.int .i64 0, .slice none 0 0] 49) = w1 at KR0 HB0 HS0 ⊢
 refine (impl_newGather.calls a0 HC.out.1 w1).mono ?_
 rintro e w2 ⟨g, b, rfl, hG, hg, hb, hb2⟩
 have HG2 := Aside0.mk hG
 have HB2 := Aside0.mk (below_step HB0.out hb2)
 have KR2 := Aside0.mk (blk_below KR0.out hb2)
 have GB : Aside0 (w.heap.size < b) := ⟨by have := HS0.out; omega⟩
 have HR2 := Aside0.mk (Kd.C_below HR1.out HB2.out)
 clear hG hg hb hb2 KR0 HB0
 go_wp2_with fail
 refine (impl_gather_add.calls g a0 b 0 [] _ _ l1 a2 w2 HG2.out (by decide) HC.out.2.2 HR2.out HC1.out HC.out.2.1).mono ?_
 rintro e w3 ⟨rfl, hG3, hg3⟩
 have HG3 := Aside0.mk hG3
 have HB3 := Aside0.mk (HB2.out.grown hg3 HB2.out.size (fun j hj => by cases hj; have := GB.out; omega))
 have KR3 := Aside0.mk (blk_grown (g := w.heap.size) KR2.out hg3 (fun e_ => by have := Option.some.inj e_; have := GB.out; omega))
 clear hG3 hg3 HB2 KR2 HR2
 go_wp2_with fail
 refine (impl_gather_sum.calls g a0 b _ _ w3 HG3.out (by decide)).mono ?_
 rintro e w4 ⟨v4, rfl, hS4, hb4⟩
 have HS4 := Aside0.mk (Kd.S_lower hS4 HB3.out.size)
 have HB4 := Aside0.mk (below_step HB3.out hb4)
 have KR4 := Aside0.mk (blk_below KR3.out hb4)
 clear hS4 hb4 HB3 KR3
 have hq0 : w4.cell? ⟨w.heap.size, 0, none⟩ = some (.int .i64 0) := (blk_cell KR4.out 0).trans rfl
 have hq1 : w4.cell? ⟨w.heap.size, 1, none⟩ = some (.slice none 0 0) := (blk_cell KR4.out 1).trans rfl
 have hf0 := blk_frozen KR4.out 0
 have hf1 := blk_frozen KR4.out 1
 obtain ⟨yy, hyy⟩ : ∃ y_ : List S89, y_ = List.filter (fun x => x.f1 != 0) (putZ a0 [] l1 a2) := ⟨_, rfl⟩
 have NY := Aside0.mk hyy
 rw [← hyy] at HS4
 clear hyy
 obtain ⟨Au, cu, eu⟩ := Kd.S_slice HS4.out
 subst eu
 go_wp2
 refine bodyPost_ret (results_cell_row rfl _ _ w.heap.size 49 #[.int .i64 a0, .slice Au yy.length cu] (0, 0) _ rfl (by refine blk_put (cs := #[.int .i64 a0, .slice none 0 0]) ?_ 1 _ rfl; refine blk_put (cs := #[.int .i64 0, .slice none 0 0]) ?_ 0 _ rfl; exact KR4.out) Try.underlying49 rfl (by kernel_rfl)) rfl ?_
 refine ⟨_, rfl, ?_, below_set (below_set HB4.out (Nat.le_refl _)) (Nat.le_refl _)⟩
 show Kd.S k89 89 _ _ _ _ (nzT (putZ a0 [] l1 a2))
 unfold nzT
 rw [← NY.out]
 exact Kd.S_set (Kd.S_set HS4.out KR4.out (by decide) 0 _) (blk_put KR4.out 0 _ rfl) (by decide) 1 _
def addZ (p kk : Int) (L xs : List S89) : List S89 := xs.foldl (fun L x => putZ p L x.f0 (x.f1 * kk)) L
theorem addZ_snoc (p kk : Int) (L xs : List S89) (x : S89) : addZ p kk L (xs ++ [x]) = putZ p (addZ p kk L xs) x.f0 (x.f1 * kk) := by unfold addZ; rw [List.foldl_append]; rfl
theorem take_rdT {xs : List S89} {k : Nat} (h : k < xs.length) : xs.take (k + 1) = xs.take k ++ [rd_T89 xs k] := by
 rw [List.take_succ_eq_append_getElem h]
 unfold rd_T89
 rw [Int.toNat_natCast, List.getD_eq_getElem?_getD, List.getElem?_eq_getElem h]
 rfl
theorem rdT_mem {xs : List S89} {k : Nat} (h : k < xs.length) : rd_T89 xs k ∈ xs := by
 unfold rd_T89
 rw [Int.toNat_natCast, List.getD_eq_getElem?_getD, List.getElem?_eq_getElem h]
 exact List.getElem_mem h
theorem CT_map {w w1 : World} {b n : Nat} {D : DataW Value} {A : Option Addr} {m : Nat} {xs : List S89} (h : w.ownsMap Try.prog 9 heldR b n D) (hg : w.grownBy w1 (some b)) (hr : Kd.C k89 w A m xs) : Kd.C k89 w1 A m xs := by
 have hm := h
 obtain ⟨es, clock, hb, _⟩ := h
 refine ⟨hr.1, hr.2.1, fun hn => ?_⟩
 obtain ⟨ad, e, hc⟩ := hr.2.2 hn
 refine ⟨ad, e, fun j p hj => ?_⟩
 obtain ⟨c, hs, hK, hcell⟩ := hc j p hj
 obtain ⟨A0, c0, rfl, l0, g0⟩ := k89_open hK
 refine ⟨_, hs, k89_mk w1 p l0 (C_map hm hg g0), fun i u hi => ?_⟩
 have h1 := hcell i u hi
 have hlt := World.block_lt_of_cell? _ _ h1
 have hne : (ad.add (j * k89.sz + i)).block ≠ b := by
  intro e2
  unfold World.cell? at h1
  rw [e2, hb] at h1
  simp at h1
 exact (World.cell?_of_block (hg.block _ hlt (fun e2 => hne (by injection e2)))).trans h1
theorem Gath.rowT {w w1 : World} {g : Nat} {p : Int} {b n : Nat} {L : List S89} {A : Option Addr} {m : Nat} {xs : List S89} (h : Gath w g p b n L) (hg : w.grownBy w1 (some b)) (hr : Kd.C k89 w A m xs) : Kd.C k89 w1 A m xs := by
 obtain ⟨D, f, h1, _⟩ := h.map
 exact CT_map h1 hg hr
theorem grown_step {a b' c : World} {r : Option Nat} (h : a.grownBy b' r) (k : Below b'.heap.size b' c) : a.grownBy c r := ⟨k.os.trans h.os, k.tape.trans h.tape, k.output.trans h.output, Nat.le_trans h.size k.size, fun i hi hne => (k.block i (Nat.lt_of_lt_of_le hi h.size)).trans (h.block i hi hne)⟩
theorem grown_two {a b' c : World} {r : Option Nat} (h : a.grownBy b' r) (k : b'.grownBy c r) : a.grownBy c r := ⟨k.os.trans h.os, k.tape.trans h.tape, k.output.trans h.output, Nat.le_trans h.size k.size, fun i hi hne => (k.block i (Nat.lt_of_lt_of_le hi h.size) hne).trans (h.block i hi hne)⟩
set_option maxHeartbeats 4000000 in
set_option maxRecDepth 100000 in
theorem impl_gather_addAll.calls (g : Nat) (p : Int) (b n : Nat) (L : List S89) (a0 : Int) (A : Option Addr) (c : Nat) (xs : List S89) (kk : Int) (w : World) (hG : Gath w g p b n L) (hr : Kd.C k89 w A xs.length xs) (hc : xs.length ≤ c) (hx : ∀ x ∈ xs, okW x.f0 ∧ (-1000000 ≤ x.f1 * kk ∧ x.f1 * kk ≤ 1000000)) (hn : n + xs.length ≤ 1048576) :
  Calls Try.prog 135 #[.pointer (some ⟨g, 0, none⟩), .agg #[.int .i64 a0, .slice A xs.length c], .int .i64 kk] w fun e w' => e = .returned (.pointer (some ⟨g, 0, none⟩)) ∧ Gath w' g p b (n + xs.length) (addZ p kk L xs) ∧ w.grownBy w' (some b) := by
 have hu49 := Try.underlying49
 have hu89 := Try.underlying89
 have HG := Aside0.mk hG
 have HR := Aside0.mk hr
 have HX := Aside0.mk hx
 have HN := Aside0.mk hn
 have LB := Aside0.mk (hG.b_lt)
 have KB := blk_new w (.cells #[.int .i64 a0, .slice A xs.length c] 49)
 have hq0 : (w.alloc (.cells #[.int .i64 a0, .slice A xs.length c] 49)).cell? ⟨w.heap.size, 0, none⟩ = some (.int .i64 a0) := (blk_cell KB 0).trans rfl
 have hq1 : (w.alloc (.cells #[.int .i64 a0, .slice A xs.length c] 49)).cell? ⟨w.heap.size, 1, none⟩ = some (.slice A xs.length c) := (blk_cell KB 1).trans rfl
 have HB0 := Aside0.mk (below_alloc (Below.refl w.heap.size w) (.cells #[.int .i64 a0, .slice A xs.length c] 49))
 have hlen : xs.length ≤ 1048576 := by omega
 clear hG hr hc hx hn KB
 go_enter Try.func135, Try.ntmps135
 go_wp2_with fail
 generalize w.alloc (.cells #[.int .i64 a0, .slice A xs.length c] 49) = w1 at hq0 hq1 HB0 ⊢
 clear hq0 hq1
 go_loopw [12] (fun i wr => ∃ k : Nat, k ≤ xs.length ∧ i = .int .i64 k ∧ Aside0 (Gath wr g p b (n + k) (addZ p kk L (xs.take k))) ∧ Aside0 (Kd.C k89 wr A xs.length xs) ∧ Aside0 (w.grownBy wr (some b))) (fun i _ => xs.length - (intOf i).toNat)
 case atStart => exact ⟨0, Nat.zero_le _, rfl, ⟨HG.out.below HB0.out⟩, ⟨Kd.C_below HR.out HB0.out⟩, ⟨⟨HB0.out.os, HB0.out.tape, HB0.out.output, HB0.out.size, fun k_ hk_ _ => HB0.out.block k_ hk_⟩⟩⟩
 case round =>
  obtain ⟨k, hk, rfl, HG1, HR1, HG2⟩ := hrel
  by_cases hlt : k < xs.length
  case neg =>
   have hkl : k = xs.length := by omega
   subst hkl
   go_wp2
   go_ret
   exact ⟨rfl, by have := HG1.out; rwa [List.take_length] at this, HG2.out⟩
  obtain ⟨ad, A0, c0, eA, hx0, hx1, hl0, hC0⟩ := at_T89 HR1.out k (by omega) (by omega)
  cases eA
  rw [Int.toNat_natCast] at hx0 hx1
  have HL0 := Aside0.mk hl0
  have HC0 := Aside0.mk hC0
  have hm := HX.out _ (rdT_mem hlt)
  have HM := Aside0.mk hm
  have HW := Aside0.mk (show wrap64 ((rd_T89 xs k).f1 * kk) = (rd_T89 xs k).f1 * kk by have := hm.2; unfold wrap64; omega)
  clear hl0 hC0 hm
  go_wp2_with fail
  rw [HW.out]
  have HGA := Aside0.mk (HG1.out.below (below_alloc (Below.refl wr.heap.size wr) (.cells #[.slice A0 (rd_T89 xs k).f0.length c0, .int .i64 (rd_T89 xs k).f1] 89)))
  have HRA := Aside0.mk (Kd.C_alloc HR1.out (.cells #[.slice A0 (rd_T89 xs k).f0.length c0, .int .i64 (rd_T89 xs k).f1] 89))
  have HCA := Aside0.mk (Kd.C_alloc HC0.out (.cells #[.slice A0 (rd_T89 xs k).f0.length c0, .int .i64 (rd_T89 xs k).f1] 89))
  have HGW := Aside0.mk (grown_step HG2.out (below_alloc (Below.refl wr.heap.size wr) (.cells #[.slice A0 (rd_T89 xs k).f0.length c0, .int .i64 (rd_T89 xs k).f1] 89)))
  generalize wr.alloc (.cells #[.slice A0 (rd_T89 xs k).f0.length c0, .int .i64 (rd_T89 xs k).f1] 89) = wa at HGA HRA HCA HGW ⊢
  refine (impl_gather_add.calls g p b (n + k) _ _ _ (rd_T89 xs k).f0 _ wa HGA.out (by have := HN.out; unfold maxLen; omega) HM.out.2 HCA.out HL0.out HM.out.1).mono ?_
  rintro e w3 ⟨rfl, hG3, hg3⟩
  have HG3 : Aside0 (Gath w3 g p b (n + (k + 1)) (addZ p kk L (xs.take (k + 1)))) := ⟨by rw [take_rdT hlt, addZ_snoc]; exact hG3⟩
  have HR3 := Aside0.mk (HGA.out.rowT hg3 HRA.out)
  have HGW3 := Aside0.mk (grown_two HGW.out hg3)
  clear hG3 hg3 hx0 hx1
  go_wp2
  go_roundw
  case rel => exact ⟨k + 1, by omega, by go_num, HG3, HR3, HGW3⟩
  case measure => simp [intOf]; omega
def PlusOk (p : Int) (xs ys : List S89) (kk : Int) : Prop := (0 < p ∧ p ≤ 1000) ∧ (∀ x ∈ xs, (x.f0.length ≤ 1048576 ∧ ∀ y ∈ x.f0, 0 ≤ y ∧ y < 100) ∧ (-1000000 ≤ x.f1 * 1 ∧ x.f1 * 1 ≤ 1000000)) ∧ (∀ x ∈ ys, (x.f0.length ≤ 1048576 ∧ ∀ y ∈ x.f0, 0 ≤ y ∧ y < 100) ∧ (-1000000 ≤ x.f1 * kk ∧ x.f1 * kk ≤ 1000000)) ∧ xs.length + ys.length ≤ 1048576
instance (p : Int) (xs ys : List S89) (kk : Int) : Decidable (PlusOk p xs ys kk) := by unfold PlusOk; infer_instance
end Go.Proofs.Ytpfhbdpmafcnfaa.G
