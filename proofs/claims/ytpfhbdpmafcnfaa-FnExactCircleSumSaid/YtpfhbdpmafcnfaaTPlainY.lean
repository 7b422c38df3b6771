/-
  Plain lemmas on a sort of a row's elements by the library: the row's cells as chunks, the world behind a sort, a row of apart elements put in another order. No program in sight.
-/
import Derived.Test.YtpfhbdpmafcnfaaTPlainQ
import Derived.Test.YtpfhbdpmafcnfaaTW
import Derived.Shelf.SlSortCmp.NoneTotal
namespace Go.Proofs.Ytpfhbdpmafcnfaa.Plain
set_option linter.unusedVariables false
set_option linter.unusedSimpArgs false
section
open Go.Shelf Go.Lib Go.Sort
def chunkAt (sz n : Nat) (cur : Array Value) (j : Nat) : List Value := (cur.toList.drop (min j (n - 1) * sz)).take sz
theorem chunkAt_length {sz n j : Nat} {cur : Array Value} (hn : 0 < n) (hc : n * sz ≤ cur.size) : (chunkAt sz n cur j).length = sz := by
  unfold chunkAt
  have h1 : min j (n - 1) + 1 ≤ n := by omega
  have h2 := Nat.mul_le_mul_right sz h1
  rw [Nat.add_mul, Nat.one_mul] at h2
  rw [List.length_take, List.length_drop, Array.length_toList]
  omega
theorem chunkAt_get {sz n j i : Nat} {cur : Array Value} (hj : j < n) (hi : i < sz) (hc : n * sz ≤ cur.size) : (chunkAt sz n cur j)[i]! = cur[j * sz + i]! := by
  unfold chunkAt
  have h1 : j + 1 ≤ n := hj
  have h2 := Nat.mul_le_mul_right sz h1
  rw [Nat.add_mul, Nat.one_mul] at h2
  have e : min j (n - 1) = j := by omega
  rw [e, getElem!_pos ((cur.toList.drop (j * sz)).take sz) i (by rw [List.length_take, List.length_drop, Array.length_toList]; omega), getElem!_pos cur _ (by omega)]
  simp
theorem flat_range {sz n t : Nat} {cur : Array Value} (hs : 0 < sz) (d : Array Nat) (hd : d.size = n) (hlt : ∀ i, i < n → d[i]! < n) (hc : n * sz ≤ cur.size) (ht : t < n * sz) : (flatK (chunkAt sz n cur) sz d)[t]! = cur[d[t / sz]! * sz + t % sz]! := by
  rw [get_flatK _ _ _ _ (by rw [hd]; exact ht)]
  exact chunkAt_get (hlt _ ((Nat.div_lt_iff_lt_mul hs).2 ht)) (Nat.mod_lt _ hs) hc
theorem range_get {n i : Nat} (h : i < n) : (Array.range n)[i]! = i := by
  rw [getElem!_pos (Array.range n) i (by simpa using h)]; simp
theorem holds_start {w : World} {g sz n : Nat} {cur : Array Value} {e : TypeId} (hs : 0 < sz) (hb : w.heap[g]? = some (.cells cur e (0, 0))) (hc : n * sz ≤ cur.size) : HoldsK (chunkAt sz n cur) sz w g 0 (Array.range n) := by
  intro j hj
  have hj' : j < n * sz := by simpa using hj
  refine ⟨?_, ?_⟩
  · have e1 := flat_range hs (Array.range n) (by simp) (fun i hi => by rw [range_get hi]; exact hi) hc hj'
    rw [range_get ((Nat.div_lt_iff_lt_mul hs).2 hj')] at e1
    have e2 : j / sz * sz + j % sz = j := by rw [Nat.mul_comm]; exact Nat.div_add_mod j sz
    rw [e2] at e1
    rw [e1]
    unfold World.cell?
    rw [hb, Nat.zero_add]
    have e3 : cur[j]! = cur[j]'(by omega) := getElem!_pos cur j (by omega)
    rw [e3]
    simp [show j < cur.size by omega]
  · unfold World.frozen?
    rw [hb]
    simp
theorem sortWorld_grown {α : Type} [Inhabited α] (enc : α → List Value) (k : Nat) (w : World) (g m : Nat) (d : Array α) (os : Array Obj) : w.grownBy (sortWorldK enc k w g 0 m d os) (some g) := by
  have hsz : (w.heap.modify g (onCells (putCells id 0 (flatK enc k d)))).size = w.heap.size := by simp
  refine ⟨rfl, rfl, rfl, ?_, ?_⟩
  · show w.heap.size ≤ ((w.heap.modify g (onCells (putCells id 0 (flatK enc k d)))) ++ os).size
    rw [Array.size_append, hsz]; omega
  · intro i hi hne
    show ((w.heap.modify g (onCells (putCells id 0 (flatK enc k d)))) ++ os)[i]? = _
    rw [Array.getElem?_append_left (by rw [hsz]; exact hi), Array.getElem?_modify, if_neg (fun e_ => hne (by rw [e_]))]
theorem sortWorld_facts {w : World} {g sz n m : Nat} {cur : Array Value} {e : TypeId} (hs : 0 < sz) (hb : w.heap[g]? = some (.cells cur e (0, 0))) (hc : n * sz ≤ cur.size) (d : Array Nat) (hd : d.size = n) (hlt : ∀ i, i < n → d[i]! < n) (os : Array Obj) :
    w.grownBy (sortWorldK (chunkAt sz n cur) sz w g 0 m d os) (some g) ∧ ∃ cur', (sortWorldK (chunkAt sz n cur) sz w g 0 m d os).heap[g]? = some (.cells cur' e (0, 0)) ∧ cur'.size = cur.size ∧ (∀ i, i < n → (cur'.toList.drop (i * sz)).take sz = (cur.toList.drop (d[i]! * sz)).take sz) := by
  have hg : g < w.heap.size := by
    rcases Nat.lt_or_ge g w.heap.size with h | h
    · exact h
    · rw [Array.getElem?_eq_none h] at hb; cases hb
  have hsz : (w.heap.modify g (onCells (putCells id 0 (flatK (chunkAt sz n cur) sz d)))).size = w.heap.size := by simp
  have hold : ∀ k, k < w.heap.size → (sortWorldK (chunkAt sz n cur) sz w g 0 m d os).heap[k]? = (w.heap.modify g (onCells (putCells id 0 (flatK (chunkAt sz n cur) sz d))))[k]? := by
    intro k hk
    show ((w.heap.modify g (onCells (putCells id 0 (flatK (chunkAt sz n cur) sz d)))) ++ os)[k]? = _
    rw [Array.getElem?_append_left (by rw [hsz]; exact hk)]
  refine ⟨⟨rfl, rfl, rfl, ?_, ?_⟩, ?_⟩
  · show w.heap.size ≤ ((w.heap.modify g (onCells (putCells id 0 (flatK (chunkAt sz n cur) sz d)))) ++ os).size
    rw [Array.size_append, hsz]; omega
  · intro k hk hne
    rw [hold k hk, Array.getElem?_modify, if_neg (fun e_ => hne (by rw [e_]))]
  · refine ⟨putCells id 0 (flatK (chunkAt sz n cur) sz d) cur, ?_, by simp [putCells], ?_⟩
    · rw [hold g hg, Array.getElem?_modify, if_pos rfl, hb]
      rfl
    · intro i hi
      have h1 := Nat.mul_le_mul_right sz (show i + 1 ≤ n from hi)
      rw [Nat.add_mul, Nat.one_mul] at h1
      have h2 := Nat.mul_le_mul_right sz (show d[i]! + 1 ≤ n from hlt i hi)
      rw [Nat.add_mul, Nat.one_mul] at h2
      apply List.ext_getElem
      · simp [putCells]; omega
      · intro t h3 h4
        have ht : t < sz := by simp at h3; omega
        have e1 : (i * sz + t) / sz = i := by rw [Nat.mul_comm, Nat.mul_add_div hs, Nat.div_eq_of_lt ht]; rfl
        have e2 : (i * sz + t) % sz = t := by rw [Nat.mul_comm, Nat.mul_add_mod]; exact Nat.mod_eq_of_lt ht
        have hf := flat_range hs d hd hlt hc (show i * sz + t < n * sz by omega)
        rw [e1, e2] at hf
        have hq : cur[d[i]! * sz + t]! = cur[d[i]! * sz + t]'(by omega) := getElem!_pos cur _ (by omega)
        rw [hq] at hf
        rw [getElem!_pos (flatK (chunkAt sz n cur) sz d) (i * sz + t) (by rw [size_flatK, hd]; omega)] at hf
        simp [putCells, hd, show i * sz + t < n * sz by omega, hf]
theorem swo_word {α : Type} (g : α → List Int) : SWO (ltOf fun x y : α => ordW (g x) (g y)) := by
  have e : ∀ x y : α, ltOf (fun x y : α => ordW (g x) (g y)) x y = befW (g x) (g y) := by
    intro x y
    unfold ltOf
    cases h : befW (g x) (g y)
    · exact decide_eq_false (fun h2 => by rw [(ordW_lt _ _).1 h2] at h; cases h)
    · exact decide_eq_true ((ordW_lt _ _).2 h)
  refine ⟨fun x => ?_, fun x y z => ?_, fun x y z => ?_⟩
  · rw [e]; exact befW_self _
  · rw [e, e, e]; exact befW_trans
  · rw [e, e, e]; exact befW_ntrans
end
section
open Go.RowKit Go.Maps Go.Proofs.YtpfhbdpmafcnfaaW.PrintWords Go.Proofs.YtpfhbdpmafcnfaaW.PrintLast Go.Proofs.YtpfhbdpmafcnfaaW.PrintMore
theorem S_sorted {α : Type} {d : Kd α} {e : Nat} {w w' : World} {base : Nat} {ok : Nat → Prop} {g n cap : Nat} {xs : List α} (z : α) (h : Kd.S d e w base ok (.slice (some ⟨g, 0, none⟩) n cap) xs) (τ : List Nat) (hτ : τ.Perm (List.range xs.length))
    (hother : ∀ k, k ≠ g → k < w.heap.size → w'.heap[k]? = w.heap[k]?) (cur cur' : Array Value) (hb : w.heap[g]? = some (.cells cur e (0, 0))) (hb' : w'.heap[g]? = some (.cells cur' e (0, 0))) (hsz : cur'.size = cur.size)
    (hc : ∀ i j, τ[i]? = some j → (cur'.toList.drop (i * d.sz)).take d.sz = (cur.toList.drop (j * d.sz)).take d.sz) : Kd.S d e w' base ok (.slice (some ⟨g, 0, none⟩) n cap) (τ.map fun j => xs.getD j z) := by
  obtain ⟨f, h0, inner, ho, hr⟩ := h
  rw [List.length_zipIdx] at ho
  have hlen : τ.length = xs.length := by rw [hτ.length_eq, List.length_range]
  have hnd : τ.Nodup := hτ.nodup_iff.2 List.nodup_range
  obtain ⟨hil, ho2⟩ := ho
  rcases ho2 with ⟨hv, _⟩ | ⟨g', cap', cur0, hv, hbase, hblk, hn, hcap, hcs, hin⟩
  · cases hv
  · injection hv with e1 e2 e3
    injection e1 with e1
    injection e1 with e1 _ _
    subst e1 e2 e3
    rw [hb] at hblk
    injection hblk with hblk
    injection hblk with hblk _ _
    subst hblk
    have hcs' : cur.size = cap * d.sz := hcs
    have hin' : cur.toList.take (xs.length * d.sz) = inner := hin
    have hle : xs.length * d.sz ≤ cap * d.sz := Nat.mul_le_mul_right _ hn
    refine ⟨fun k => τ.idxOf (f k), h0, cur'.toList.take (xs.length * d.sz), ⟨?_, .inr ⟨g, cap, cur', ?_, hbase, hb', ?_, hcap, ?_, ?_⟩⟩, ?_, ?_⟩
    · show (cur'.toList.take (xs.length * d.sz)).length = (τ.map fun j => xs.getD j z).zipIdx.length * d.sz
      rw [List.length_zipIdx, List.length_map, hlen, List.length_take]; have e9 : cur'.toList.length = cur'.size := rfl; omega
    · rw [List.length_zipIdx, List.length_map, hlen]
    · rw [List.length_zipIdx, List.length_map, hlen]; exact hn
    · rw [hsz]; exact hcs
    · rw [List.length_zipIdx, List.length_map, hlen]; rfl
    · show (cur'.toList.take (xs.length * d.sz)).length = (τ.map fun j => xs.getD j z).zipIdx.length * d.sz
      rw [List.length_zipIdx, List.length_map, hlen, List.length_take]; have e9 : cur'.toList.length = cur'.size := rfl; omega
    · intro i p hp
      rw [List.getElem?_zipIdx, Nat.zero_add, List.getElem?_map] at hp
      obtain ⟨y, hy, rfl⟩ := Option.map_eq_some_iff.1 hp
      obtain ⟨j, hj, rfl⟩ := Option.map_eq_some_iff.1 hy
      have hi : i < τ.length := (List.getElem?_eq_some_iff.1 hj).1
      have hjx : j < xs.length := by
        have := hτ.mem_iff.1 (List.mem_of_getElem? hj)
        simpa using this
      have h1 : (i + 1) * d.sz ≤ xs.length * d.sz := Nat.mul_le_mul_right _ (by omega)
      have h2 : (j + 1) * d.sz ≤ xs.length * d.sz := Nat.mul_le_mul_right _ (by omega)
      rw [Nat.add_mul, Nat.one_mul] at h1 h2
      have hx : xs.zipIdx[j]? = some (xs.getD j z, j) := by
        rw [List.getElem?_zipIdx, Nat.zero_add, List.getD_eq_getElem?_getD, List.getElem?_eq_getElem hjx]; rfl
      have hm := hr.2 j _ hx
      have ec : (inner.drop (j * d.sz)).take d.sz = ((cur'.toList.take (xs.length * d.sz)).drop (i * d.sz)).take d.sz := by
        rw [← hin', List.drop_take, List.take_take, List.drop_take, List.take_take, Nat.min_eq_left (by show d.sz ≤ _; omega), Nat.min_eq_left (by omega)]
        exact (hc i j hj).symm
      have hm' : (Kd.tag f d).M w base (fun k => ok k ∧ some k ≠ (Value.slice (some ⟨g, 0, none⟩) xs.length cap).ownBlock) (xs.getD j z, j) (((cur'.toList.take (xs.length * d.sz)).drop (i * d.sz)).take d.sz) := by
        rw [← ec]; exact hm
      have hs := Kd.M_step hm' (w1 := w') (fun k hk hlt => hother k (fun e_ => hk.2 (by rw [e_]; rfl)) hlt)
      refine d.M_mono (fun k hk => ⟨hk.1, ?_⟩) hs
      show τ.idxOf (f k) = i
      have hfk : f k = j := hk.2
      rw [hfk]
      obtain ⟨hi', he⟩ := List.getElem?_eq_some_iff.1 hj
      rw [← he]
      exact hnd.idxOf_getElem i hi'
end
end Go.Proofs.Ytpfhbdpmafcnfaa.Plain
