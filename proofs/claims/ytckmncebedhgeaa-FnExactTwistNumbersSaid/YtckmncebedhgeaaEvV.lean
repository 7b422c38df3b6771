/-
  Plain law: the border circles of a word of n chords, some of them twisted, are at most n + 1.
-/
import Derived.Test.YtckmncebedhgeaaEvC
namespace Go.Proofs.Ytckmncebedhgeaa.Pure
open Go.RowKit Go.Proofs.Ytckmncebedhgeaa.G Go.Proofs.Ytckmncebedhgeaa.Plain Go.Proofs.YtckmncebedhgeaaW.PrintWords Go.Proofs.YtckmncebedhgeaaW.PrintLast
set_option linter.unusedVariables false

def MkdV (s : List Bool) (x : Nat) : Prop := s.getD x true = true
theorem mkd_set (s : List Bool) (k x : Nat) : MkdV (s.set k true) x ↔ MkdV s x ∨ x = k := by
  unfold MkdV
  rw [List.getD_eq_getElem?_getD, List.getD_eq_getElem?_getD, List.getElem?_set]
  by_cases e : k = x
  · subst e
    by_cases h : k < s.length
    · simp [h]
    · simp [h]
  · have e2 : ¬ x = k := fun h => e h.symm
    simp [e, e2]
theorem mkd_sets (s : List Bool) (k j x : Nat) : MkdV ((s.set k true).set j true) x ↔ MkdV s x ∨ x = k ∨ x = j := by
  rw [mkd_set, mkd_set]
  constructor
  · rintro ((h | h) | h)
    · exact .inl h
    · exact .inr (.inl h)
    · exact .inr (.inr h)
  · rintro (h | h | h)
    · exact .inl (.inl h)
    · exact .inl (.inr h)
    · exact .inr h
/-- Two ways to turn points in pairs. -/
structure PairsV (al rg : Nat → Nat) (m : Nat) : Prop where
  al_lt : ∀ x, x < m → al x < m
  rg_lt : ∀ x, x < m → rg x < m
  al_al : ∀ x, x < m → al (al x) = x
  rg_rg : ∀ x, x < m → rg (rg x) = x
  al_ne : ∀ x, x < m → al x ≠ x
  rg_ne : ∀ x, x < m → rg x ≠ x
def ShutV (al rg : Nat → Nat) (m : Nat) (s : List Bool) : Prop := ∀ x, x < m → MkdV s x → MkdV s (al x) ∧ MkdV s (rg x)
theorem walkB_mono (al nx : Nat → Nat) : ∀ (d : Nat) (s : List Bool) (k x : Nat), MkdV s x → MkdV (walkB al nx d s k) x
  | 0, _, _, _, h => h
  | d + 1, s, k, x, h => by
    unfold walkB
    split
    · exact h
    · exact walkB_mono al nx d _ _ x ((mkd_sets s k (al k) x).2 (.inl h))
/-- What holds of a walk that began at i and stands before k, not marked. -/
def OnV (al rg : Nat → Nat) (m : Nat) (s : List Bool) (k i : Nat) : Prop :=
  (k = i ∧ ∀ x, x < m → MkdV s x → MkdV s (rg x)) ∨ (MkdV s i ∧ MkdV s (rg k) ∧ k ≠ i ∧ ∀ x, x < m → MkdV s x → x ≠ i → MkdV s (rg x) ∨ rg x = k)
theorem walk_shut {al rg nx : Nat → Nat} {m : Nat} (I : PairsV al rg m) (hnx : ∀ x, x < m → nx x = rg (al x)) (i : Nat) (hi : i < m) : ∀ (d : Nat) (s : List Bool) (k : Nat), s.count false < d → s.length = m → k < m →
    (∀ x, x < m → MkdV s x → MkdV s (al x)) → ((¬ MkdV s k ∧ OnV al rg m s k i) ∨ (MkdV s k ∧ ShutV al rg m s ∧ MkdV s i)) → ShutV al rg m (walkB al nx d s k) ∧ MkdV (walkB al nx d s k) i := by
  intro d
  induction d with
  | zero => intro s k hc; omega
  | succ d ih =>
    intro s k hc hl hk hA hS
    unfold walkB
    rcases hS with ⟨hn, hO⟩ | ⟨hm, hC⟩
    · rw [if_neg (show ¬ s.getD k true = true from hn)]
      have hf : s.getD k true = false := by unfold MkdV at hn; exact Bool.eq_false_iff.mpr hn
      have hcl := count_sets_lt s k (al k) hf
      have hak := I.al_lt k hk
      have hn2 : ¬ MkdV s (al k) := fun h => hn (by have := hA _ hak h; rwa [I.al_al k hk] at this)
      have hA2 : ∀ x, x < m → MkdV ((s.set k true).set (al k) true) x → MkdV ((s.set k true).set (al k) true) (al x) := by
        intro x hx h
        rw [mkd_sets] at h ⊢
        rcases h with h | h | h
        · exact .inl (hA x hx h)
        · exact .inr (.inr (by rw [h]))
        · exact .inr (.inl (by rw [h, I.al_al k hk]))
      have hrk : rg (rg (al k)) = al k := I.rg_rg _ hak
      have hkk : rg (al k) < m := I.rg_lt _ hak
      rw [hnx k hk]
      refine ih _ _ (by omega) (by simp [hl]) hkk hA2 ?_
      have hi2 : MkdV ((s.set k true).set (al k) true) i := by
        rw [mkd_sets]
        rcases hO with ⟨e, _⟩ | ⟨h, _⟩
        · exact .inr (.inl e.symm)
        · exact .inl h
      -- every marked point but i has its ring's other end marked, or it is the next one
      have hX : ∀ x, x < m → MkdV ((s.set k true).set (al k) true) x → x ≠ i → MkdV ((s.set k true).set (al k) true) (rg x) ∨ rg x = rg (al k) := by
        intro x hx h hne
        rw [mkd_sets] at h
        rcases h with h | h | h
        · rcases hO with ⟨e, h2⟩ | ⟨_, _, _, h2⟩
          · exact .inl ((mkd_sets ..).2 (.inl (h2 x hx h)))
          · rcases h2 x hx h hne with h3 | h3
            · exact .inl ((mkd_sets ..).2 (.inl h3))
            · exact .inl ((mkd_sets ..).2 (.inr (.inl h3)))
        · subst h
          rcases hO with ⟨e, _⟩ | ⟨_, h2, _⟩
          · exact absurd e hne
          · exact .inl ((mkd_sets ..).2 (.inl h2))
        · exact .inr (by rw [h])
      have hlast : MkdV ((s.set k true).set (al k) true) (rg (rg (al k))) := by rw [hrk, mkd_sets]; exact .inr (.inr rfl)
      by_cases hm : MkdV ((s.set k true).set (al k) true) (rg (al k))
      · refine .inr ⟨hm, ?_, hi2⟩
        have e : rg (al k) = i := by
          refine Classical.byContradiction fun hne => ?_
          rw [mkd_sets] at hm
          rcases hm with hm | hm | hm
          · rcases hO with ⟨e, h2⟩ | ⟨_, _, _, h2⟩
            · have := h2 _ hkk hm
              rw [hrk] at this
              exact hn2 this
            · rcases h2 _ hkk hm hne with h3 | h3
              · rw [hrk] at h3; exact hn2 h3
              · rw [hrk] at h3; exact I.al_ne k hk h3
          · rcases hO with ⟨e, _⟩ | ⟨_, h2, _⟩
            · exact hne (by rw [hm]; exact e)
            · rw [← hm, hrk] at h2; exact hn2 h2
          · exact I.rg_ne _ hak hm
        intro x hx h
        refine ⟨hA2 x hx h, ?_⟩
        by_cases hne : x = i
        · rw [hne, ← e]; exact hlast
        · rcases hX x hx h hne with h3 | h3
          · exact h3
          · rw [h3]; exact hm
      · refine .inl ⟨hm, .inr ⟨hi2, hlast, ?_, hX⟩⟩
        rintro e
        rw [e] at hm
        exact hm hi2
    · rw [if_pos (show s.getD k true = true from hm)]
      exact hC
theorem filt_lt {α : Type} (p p' : α → Bool) : ∀ (l : List α), (∀ x ∈ l, p' x = true → p x = true) → (∃ t ∈ l, p t = true ∧ p' t = false) → (l.filter p').length < (l.filter p).length
  | [], _, h => by obtain ⟨t, h, _⟩ := h; cases h
  | a :: l, h1, h2 => by
    have hle : (l.filter p').length ≤ (l.filter p).length := by
      clear h2
      have h3 : ∀ x ∈ l, p' x = true → p x = true := fun x hx => h1 x (List.mem_cons_of_mem _ hx)
      clear h1
      induction l with
      | nil => exact Nat.le_refl _
      | cons b l ih =>
        have := ih (fun x hx => h3 x (List.mem_cons_of_mem _ hx))
        have hb := h3 b (List.mem_cons_self ..)
        rw [List.filter_cons, List.filter_cons]
        by_cases e : p' b = true
        · rw [if_pos e, if_pos (hb e)]; simp; exact this
        · rw [if_neg e]
          split
          · simp; omega
          · exact this
    have ha := h1 a (List.mem_cons_self ..)
    rw [List.filter_cons, List.filter_cons]
    obtain ⟨t, ht, e1, e2⟩ := h2
    rcases List.mem_cons.1 ht with rfl | ht
    · rw [if_pos e1, if_neg (by rw [e2]; simp)]
      simp; omega
    · have := filt_lt p p' l (fun x hx => h1 x (List.mem_cons_of_mem _ hx)) ⟨t, ht, e1, e2⟩
      by_cases e : p' a = true
      · rw [if_pos e, if_pos (ha e)]; simp; exact this
      · rw [if_neg e]
        split
        · simp; omega
        · exact this
def UnmV (T : List Nat) (s : List Bool) : Nat := (T.filter fun t => !(s.getD t true)).length
/-- No more walks than points of which every part that is shut holds one. -/
theorem cyc_tops {al rg nx : Nat → Nat} {m : Nat} (I : PairsV al rg m) (hnx : ∀ x, x < m → nx x = rg (al x)) (T : List Nat)
    (hT : ∀ D : Nat → Prop, (∀ x, x < m → D x → D (al x) ∧ D (rg x)) → (∃ x, x < m ∧ D x) → ∃ t ∈ T, D t) :
    ∀ (d i : Nat) (s : List Bool) (c : Nat), i + d = m → s.length = m → ShutV al rg m s → cycB al nx d i s c ≤ c + UnmV T s := by
  intro d
  induction d with
  | zero => intro i s c _ _ _; unfold cycB; omega
  | succ d ih =>
    intro i s c hd hl hS
    unfold cycB
    by_cases h : s.getD i true = true
    · rw [if_pos h]; exact ih _ _ _ (by omega) hl hS
    · rw [if_neg h]
      have hi : i < m := by omega
      have w1 := walk_shut I hnx i hi (s.count false + 1) s i (by omega) hl hi (fun x hx hm => (hS x hx hm).1) (.inl ⟨h, .inl ⟨rfl, fun x hx hm => (hS x hx hm).2⟩⟩)
      have w2 := walkB_length al nx (s.count false + 1) s i
      have w3 := walkB_mono al nx (s.count false + 1) s i
      have hr := ih (i + 1) (walkB al nx (s.count false + 1) s i) (c + 1) (by omega) (by rw [w2]; exact hl) w1.1
      obtain ⟨t, htT, ht1, ht2⟩ := hT (fun x => MkdV (walkB al nx (s.count false + 1) s i) x ∧ ¬ MkdV s x ∧ x < m) (fun x hx ⟨h1, h2, _⟩ => by
        refine ⟨⟨(w1.1 x hx h1).1, fun h3 => h2 ?_, I.al_lt x hx⟩, ⟨(w1.1 x hx h1).2, fun h3 => h2 ?_, I.rg_lt x hx⟩⟩
        · have := (hS _ (I.al_lt x hx) h3).1
          rwa [I.al_al x hx] at this
        · have := (hS _ (I.rg_lt x hx) h3).2
          rwa [I.rg_rg x hx] at this) ⟨i, hi, w1.2, h, hi⟩
      have hu : UnmV T (walkB al nx (s.count false + 1) s i) < UnmV T s := by
        unfold UnmV
        refine filt_lt _ _ T (fun x _ hx => ?_) ⟨t, htT, ?_, ?_⟩
        · by_cases e : s.getD x true = true
          · have := w3 x e
            unfold MkdV at this
            rw [this] at hx
            exact absurd hx (by simp)
          · have e2 : s.getD x true = false := Bool.eq_false_iff.mpr e
            show (!(s.getD x true)) = true
            rw [e2]; rfl
        · have := ht2.1
          unfold MkdV at this
          have e2 : s.getD t true = false := Bool.eq_false_iff.mpr this
          show (!(s.getD t true)) = true
          rw [e2]; rfl
        · unfold MkdV at ht1
          rw [ht1]; rfl
      omega
/-- The chord of a point, and the point's other end. -/
def chV (w : List Int) (x : Nat) : Nat := (w.getD (x / 2) 0).toNat
def bvV (w : List Int) (q : Int → Bool) (i x : Nat) : Nat :=
  if x = 2 * fstP w i then endA q i (sndP w i) else if x = 2 * fstP w i + 1 then endB q i (sndP w i) else if x = endA q i (sndP w i) then 2 * fstP w i else 2 * fstP w i + 1
theorem set4 (b : List Int) (p1 p2 p3 p4 : Nat) (v1 v2 v3 v4 : Int) (x : Nat) : ((((b.set p1 v1).set p2 v2).set p3 v3).set p4 v4)[x]? =
    if x < b.length then (if p4 = x then some v4 else if p3 = x then some v3 else if p2 = x then some v2 else if p1 = x then some v1 else b[x]?) else none := by
  by_cases h : x < b.length
  · rw [if_pos h]
    simp only [List.getElem?_set, List.length_set]
    by_cases e4 : p4 = x
    · subst e4; simp [h]
    · by_cases e3 : p3 = x
      · subst e3; simp [h, e4]
      · by_cases e2 : p2 = x
        · subst e2; simp [h, e3, e4]
        · by_cases e1 : p1 = x
          · subst e1; simp [h, e2, e3, e4]
          · simp [e1, e2, e3, e4]
  · rw [if_neg h, List.getElem?_eq_none_iff]
    simp; omega
theorem bandS_in {w : List Int} {q : Int → Bool} {b : List Int} {i x : Nat} (hb : b.length = 2 * w.length) (h2 : w.count (i : Int) = 2) (hx : x / 2 = fstP w i ∨ x / 2 = sndP w i) : (bandS w q b i).getD x 0 = (bvV w q i x : Int) := by
  obtain ⟨h3, h4⟩ := sndP_lt h2
  have hxl : x < b.length := by omega
  unfold bandS
  rw [List.getD_eq_getElem?_getD, set4, if_pos hxl]
  unfold bvV endA endB
  by_cases e : q i = true
  · simp only [if_pos e]
    repeat' split
    all_goals first | omega | (simp only [Option.getD_some]; done) | (simp only [Option.getD_some]; omega)
  · simp only [if_neg e]
    repeat' split
    all_goals first | omega | (simp only [Option.getD_some]; done) | (simp only [Option.getD_some]; omega)
theorem bandS_out {w : List Int} {q : Int → Bool} {b : List Int} {i x : Nat} (h2 : w.count (i : Int) = 2) (hx : ¬ (x / 2 = fstP w i ∨ x / 2 = sndP w i)) : (bandS w q b i).getD x 0 = b.getD x 0 := by
  obtain ⟨h3, h4⟩ := sndP_lt h2
  have e1 : endA q i (sndP w i) / 2 = sndP w i := by unfold endA; split <;> omega
  have e2 : endB q i (sndP w i) / 2 = sndP w i := by unfold endB; split <;> omega
  unfold bandS
  rw [List.getD_eq_getElem?_getD, List.getD_eq_getElem?_getD, set4]
  by_cases hxl : x < b.length
  · rw [if_pos hxl, if_neg, if_neg, if_neg, if_neg]
    all_goals (rintro rfl; omega)
  · rw [if_neg hxl, List.getElem?_eq_none_iff.2 (by omega)]
theorem bandS_length (w : List Int) (q : Int → Bool) (b : List Int) (i : Nat) : (bandS w q b i).length = b.length := by unfold bandS; simp
theorem chord_of {w : List Int} (h : isWordB w = true) {x : Nat} (hx : x < 2 * w.length) : chV w x < w.length / 2 ∧ (x / 2 = fstP w (chV w x) ∨ x / 2 = sndP w (chV w x)) ∧ ∀ i : Nat, i < w.length / 2 → (x / 2 = fstP w i ∨ x / 2 = sndP w i) → i = chV w x := by
  have hk : x / 2 < w.length := by omega
  have e : w.getD (x / 2) 0 = w[x / 2] := by rw [List.getD_eq_getElem?_getD, List.getElem?_eq_getElem hk]; rfl
  have hm := word_mem h (List.getElem_mem hk)
  have hc : ((chV w x : Nat) : Int) = w[x / 2] := by unfold chV; rw [e]; omega
  have hlt : chV w x < w.length / 2 := by omega
  refine ⟨hlt, ?_, fun i hi hp => ?_⟩
  · exact (place_iff (word_two h hlt) (x / 2)).1 (by rw [hc]; exact List.getElem?_eq_getElem hk)
  · have := (place_iff (word_two h hi) (x / 2)).2 hp
    rw [List.getElem?_eq_getElem hk] at this
    have := Option.some.inj this
    omega
theorem bandF_keep {w : List Int} (h : isWordB w = true) {q : Int → Bool} {x : Nat} (hx : x < 2 * w.length) : ∀ (d i : Nat) (b : List Int), i + d = w.length / 2 → chV w x < i → (bandF w q d i b).getD x 0 = b.getD x 0
  | 0, _, _, _, _ => rfl
  | d + 1, i, b, hd, hc => by
    unfold bandF
    rw [bandF_keep h hx d (i + 1) _ (by omega) (by omega), bandS_out (word_two h (by omega)) (fun hp => by have := (chord_of h hx).2.2 i (by omega) hp; omega)]
theorem bandF_in {w : List Int} (h : isWordB w = true) {q : Int → Bool} {x : Nat} (hx : x < 2 * w.length) : ∀ (d i : Nat) (b : List Int), i + d = w.length / 2 → b.length = 2 * w.length → i ≤ chV w x → (bandF w q d i b).getD x 0 = (bvV w q (chV w x) x : Int)
  | 0, i, _, hd, _, hc => by have := (chord_of h hx).1; omega
  | d + 1, i, b, hd, hb, hc => by
    unfold bandF
    by_cases e : chV w x = i
    · rw [bandF_keep h hx d (i + 1) _ (by omega) (by omega), e, bandS_in hb (word_two h (by omega)) (by rw [← e]; exact (chord_of h hx).2.1)]
    · exact bandF_in h hx d (i + 1) _ (by omega) (by rw [bandS_length]; exact hb) (by omega)
theorem bandAt_eq {w : List Int} (h : isWordB w = true) (q : Int → Bool) {x : Nat} (hx : x < 2 * w.length) : bandAt (circB w q) x = bvV w q (chV w x) x := by
  unfold bandAt circB
  rw [bandF_in h hx _ _ _ (by omega) (by simp) (by omega), Int.toNat_natCast]
theorem bvV_facts {w : List Int} (h : isWordB w = true) (q : Int → Bool) {x : Nat} (hx : x < 2 * w.length) :
    bvV w q (chV w x) x < 2 * w.length ∧ bvV w q (chV w x) x ≠ x ∧ chV w (bvV w q (chV w x) x) = chV w x ∧ bvV w q (chV w x) (bvV w q (chV w x) x) = x ∧ (x / 2 = sndP w (chV w x) → bvV w q (chV w x) x / 2 = fstP w (chV w x)) := by
  obtain ⟨hc, hp, _⟩ := chord_of h hx
  obtain ⟨h3, h4⟩ := sndP_lt (word_two h hc)
  have hy : bvV w q (chV w x) x < 2 * w.length ∧ (bvV w q (chV w x) x / 2 = fstP w (chV w x) ∨ bvV w q (chV w x) x / 2 = sndP w (chV w x)) ∧ bvV w q (chV w x) x ≠ x ∧ bvV w q (chV w x) (bvV w q (chV w x) x) = x ∧ (x / 2 = sndP w (chV w x) → bvV w q (chV w x) x / 2 = fstP w (chV w x)) := by
    generalize chV w x = c at *
    generalize hf : fstP w (c : Int) = f at *
    generalize hs : sndP w (c : Int) = s at *
    unfold bvV endA endB
    rw [hf, hs]
    by_cases e : q c = true
    · simp only [if_pos e]
      have : x = 2 * f ∨ x = 2 * f + 1 ∨ x = 2 * s ∨ x = 2 * s + 1 := by omega
      rcases this with rfl | rfl | rfl | rfl <;> refine ⟨?_, ?_, ?_, ?_, ?_⟩ <;> (repeat' split) <;> omega
    · simp only [if_neg e]
      have : x = 2 * f ∨ x = 2 * f + 1 ∨ x = 2 * s ∨ x = 2 * s + 1 := by omega
      rcases this with rfl | rfl | rfl | rfl <;> refine ⟨?_, ?_, ?_, ?_, ?_⟩ <;> (repeat' split) <;> omega
  exact ⟨hy.1, hy.2.2.1, ((chord_of h hy.1).2.2 _ hc hy.2.1).symm, hy.2.2.2.1, hy.2.2.2.2⟩
def ringV (m x : Nat) : Nat := if x % 2 = 1 then (x + 1) % m else (x + m - 1) % m
theorem roadAt_eq {w : List Int} (h : isWordB w = true) (q : Int → Bool) {x : Nat} (hx : x < 2 * w.length) : roadAt (circB w q) (circR w) x = ringV (2 * w.length) (bandAt (circB w q) x) := by
  have hl := word_length h
  have hb : bandAt (circB w q) x < 2 * w.length := by rw [bandAt_eq h q hx]; exact (bvV_facts h q hx).1
  unfold roadAt circR
  rw [ring_at hl hb]
  unfold ringV
  split <;> rfl
theorem ringV_facts {n x : Nat} (hx : x < 2 * n) : ringV (2 * n) x < 2 * n ∧ ringV (2 * n) (ringV (2 * n) x) = x ∧ ringV (2 * n) x ≠ x := by
  unfold ringV
  by_cases e : x % 2 = 1
  · rw [if_pos e]
    by_cases e2 : x + 1 = 2 * n
    · rw [e2, Nat.mod_self]; simp; omega
    · rw [Nat.mod_eq_of_lt (by omega), if_neg (by omega)]
      refine ⟨by omega, ?_, by omega⟩
      rw [show x + 1 + 2 * n - 1 = x + 2 * n by omega, Nat.add_mod_right, Nat.mod_eq_of_lt hx]
  · rw [if_neg e]
    by_cases e2 : x = 0
    · subst e2
      rw [Nat.mod_eq_of_lt (by omega), if_pos (by omega)]
      refine ⟨by omega, ?_, by omega⟩
      rw [show 0 + 2 * n - 1 + 1 = 2 * n by omega, Nat.mod_self]
    · rw [show x + 2 * n - 1 = x - 1 + 2 * n by omega, Nat.add_mod_right, Nat.mod_eq_of_lt (by omega), if_pos (by omega)]
      refine ⟨by omega, ?_, by omega⟩
      rw [show x - 1 + 1 = x by omega, Nat.mod_eq_of_lt hx]
theorem ringV_even {n x : Nat} (hx : x < 2 * n) (e : ¬ x % 2 = 1) : ringV (2 * n) x % 2 = 1 := by
  unfold ringV
  rw [if_neg e]
  by_cases z : x = 0
  · subst z
    have e3 : (0 + 2 * n - 1) % (2 * n) = 0 + 2 * n - 1 := Nat.mod_eq_of_lt (by omega)
    rw [e3]; omega
  · have e3 : (x - 1) % (2 * n) = x - 1 := Nat.mod_eq_of_lt (by omega)
    rw [show x + 2 * n - 1 = x - 1 + 2 * n by omega, Nat.add_mod_right, e3]; omega
def topsV (w : List Int) : List Nat := (2 * w.length - 1) :: (List.range (w.length / 2)).map fun (i : Nat) => 2 * fstP w (i : Int) + 1
theorem pairsV {w : List Int} (h : isWordB w = true) (q : Int → Bool) : PairsV (bandAt (circB w q)) (ringV (2 * w.length)) (2 * w.length) where
  al_lt x hx := by rw [bandAt_eq h q hx]; exact (bvV_facts h q hx).1
  rg_lt x hx := (ringV_facts hx).1
  al_al x hx := by
    have f := bvV_facts h q hx
    rw [bandAt_eq h q hx, bandAt_eq h q f.1, f.2.2.1, f.2.2.2.1]
  rg_rg x hx := (ringV_facts hx).2.1
  al_ne x hx := by rw [bandAt_eq h q hx]; exact (bvV_facts h q hx).2.1
  rg_ne x hx := (ringV_facts hx).2.2
theorem tops_hit {w : List Int} (h : isWordB w = true) (q : Int → Bool) (D : Nat → Prop) (hD : ∀ x, x < 2 * w.length → D x → D (bandAt (circB w q) x) ∧ D (ringV (2 * w.length) x)) : ∀ t, t < w.length → D (2 * t + 1) → ∃ y ∈ topsV w, D y := by
  intro t
  induction t using Nat.strongRecOn with
  | ind t ih =>
    intro ht hd
    have hx : 2 * t + 1 < 2 * w.length := by omega
    obtain ⟨hc, hp, _⟩ := chord_of h hx
    have et : (2 * t + 1) / 2 = t := by omega
    rw [et] at hp
    have mem : ∀ c, c < w.length / 2 → 2 * fstP w (c : Int) + 1 ∈ topsV w := fun c hc => List.mem_cons_of_mem _ (List.mem_map.2 ⟨c, List.mem_range.2 hc, rfl⟩)
    rcases hp with hp | hp
    · exact ⟨_, mem _ hc, by rw [← hp]; exact hd⟩
    · have hB := (hD _ hx hd).1
      rw [bandAt_eq h q hx] at hB
      have f := bvV_facts h q hx
      have f5 := f.2.2.2.2 (by rw [et]; exact hp)
      obtain ⟨h3, h4⟩ := sndP_lt (word_two h hc)
      generalize bvV w q (chV w (2 * t + 1)) (2 * t + 1) = y at *
      have hy : y = 2 * fstP w (chV w (2 * t + 1)) ∨ y = 2 * fstP w (chV w (2 * t + 1)) + 1 := by omega
      rcases hy with hy | hy
      · have hR := (hD y f.1 hB).2
        by_cases z : fstP w (chV w (2 * t + 1)) = 0
        · refine ⟨2 * w.length - 1, List.mem_cons_self .., ?_⟩
          have e : ringV (2 * w.length) y = 2 * w.length - 1 := by
            unfold ringV
            rw [if_neg (by omega), hy, z, Nat.mod_eq_of_lt (by omega)]; omega
          rw [e] at hR; exact hR
        · have e : ringV (2 * w.length) y = 2 * (fstP w (chV w (2 * t + 1)) - 1) + 1 := by
            unfold ringV
            rw [if_neg (by omega), show y + 2 * w.length - 1 = y - 1 + 2 * w.length by omega, Nat.add_mod_right, Nat.mod_eq_of_lt (by omega)]
            omega
          rw [e] at hR
          exact ih (fstP w (chV w (2 * t + 1)) - 1) (by omega) (by omega) hR
      · exact ⟨_, mem _ hc, by rw [← hy]; exact hB⟩
/-- The circles of a word of n chords are at most n + 1. -/
theorem circN_chords {w : List Int} (h : isWordB w = true) (q : Int → Bool) : circN w q ≤ w.length / 2 + 1 := by
  have hk := cyc_tops (nx := roadAt (circB w q) (circR w)) (pairsV h q) (fun x hx => roadAt_eq h q hx) (topsV w) (fun D hD ⟨x, hx, hd⟩ => by
    have hD2 : ∀ x, x < 2 * w.length → D x → D (bandAt (circB w q) x) ∧ D (ringV (2 * w.length) x) := hD
    have f := ringV_facts hx
    by_cases e : x % 2 = 1
    · exact tops_hit h q D hD2 (x / 2) (by omega) (by rw [show 2 * (x / 2) + 1 = x by omega]; exact hd)
    · have hr := (hD2 x hx hd).2
      have e2 := ringV_even hx e
      exact tops_hit h q D hD2 (ringV (2 * w.length) x / 2) (by omega) (by rw [show 2 * (ringV (2 * w.length) x / 2) + 1 = ringV (2 * w.length) x by omega]; exact hr)) (2 * w.length) 0 (List.replicate (2 * w.length) false) 0 (by omega) (by simp) (fun x hx hm => by
    unfold MkdV at hm
    rw [List.getD_eq_getElem?_getD, List.getElem?_replicate, if_pos hx] at hm
    cases hm)
  have hu : UnmV (topsV w) (List.replicate (2 * w.length) false) ≤ (topsV w).length := List.length_filter_le _ _
  have ht : (topsV w).length = w.length / 2 + 1 := by unfold topsV; simp
  unfold circN
  omega
end Go.Proofs.Ytckmncebedhgeaa.Pure
