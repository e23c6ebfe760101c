/- A row of the call's own, sorted: the sort's words (at structs) and the row's. -/
import Derived.Test.YtlgopjfnknjgjaaL1
import Derived.Shelf.SlSortCmp.SmallK
import Derived.Shelf.SlSortCmp.PivotK
import Derived.Sort.OwnSorted
namespace Go.Proofs.Ytlgopjfnknjgjaa
open Go.RowKit Go.Sort

theorem flatK_eq {α : Type} [Inhabited α] (enc : α → List Value) (k : Nat) (hk0 : 0 < k) (hk : ∀ x, (enc x).length = k) (l : List α) : flatK enc k l.toArray = (l.flatMap enc).toArray := by
  have hl := flat_len enc k hk l
  apply Array.ext
  · simp only [size_flatK, List.size_toArray, hl]
  · intro t h1 h2
    have h1' : t < l.length * k := by simpa using h1
    have hd : t / k < l.length := by rw [Nat.div_lt_iff_lt_mul hk0]; exact h1'
    have hm : t % k < k := Nat.mod_lt _ hk0
    have hg := flat_get enc k hk l (t / k) hd (t % k) hm
    have e : t / k * k + t % k = t := by rw [Nat.mul_comm]; exact Nat.div_add_mod t k
    rw [e] at hg
    have hf := get_flatK enc k l.toArray t (by simpa using h1')
    rw [getElem!_pos _ t h1] at hf
    rw [hf]
    have hx : (l.toArray)[t / k]! = l[t / k] := by rw [getElem!_pos _ _ (by simpa using hd)]; simp
    rw [hx]
    have h2' : t < (l.flatMap enc).length := by rw [hl]; exact h1'
    rw [List.getElem?_eq_getElem h2', List.getElem?_eq_getElem (by rw [hk]; exact hm)] at hg
    rw [getElem!_pos _ _ (by rw [hk]; exact hm)]
    have := Option.some.inj hg
    simp only [List.getElem_toArray]
    exact this.symm

theorem own_holds {w : World} {base g n cap size : Nat} {e : TypeId} {xs : List Value} (h : w.ownsRow base e size (.slice (some ⟨g, 0, none⟩) n cap) n xs) :
    ∃ cur, w.heap[g]? = some (.cells cur e (0, 0)) ∧ base ≤ g ∧ n ≤ cap ∧ cap ≤ maxLen ∧ cur.size = cap * size ∧ g < w.heap.size ∧ Holds id w g 0 xs.toArray := by
  obtain ⟨hl, h | ⟨g', cap', cur, e0, hb, hg, hn, hm, hs, ht⟩⟩ := h
  · cases h.1
  · injection e0 with e1 _ e3
    injection e1 with e1
    injection e1 with e1
    subst e1; subst e3
    refine ⟨cur, hg, hb, hn, hm, hs, (Array.getElem?_eq_some_iff.1 hg).1, fun j hj => ?_⟩
    have hj' : j < xs.length := by simpa using hj
    refine ⟨?_, by simp [World.frozen?, hg]⟩
    have e2 : (cur.toList.take (n * size))[j]? = xs[j]? := by rw [ht]
    rw [List.getElem?_take, if_pos (by omega), Array.getElem?_toList, List.getElem?_eq_getElem hj'] at e2
    simp only [World.cell?, hg, Nat.zero_add]
    simp only [Option.isSome_none, Bool.false_eq_true, if_false]
    rw [e2]
    simp [getElem!_pos, hj']

theorem grownBy_row {w : World} {g n : Nat} {os : Array Obj} (d : Array Value) : w.grownBy (grow (putRow id (Sort.ahead w n) g 0 d) os) (some g) := by
  refine ⟨rfl, rfl, rfl, by simp, fun k hk hne => ?_⟩
  rw [heap_grow_old _ _ (by simpa using hk)]
  have : g ≠ k := fun e => hne (by rw [e])
  simp [putRow, mapBlock, Sort.ahead, Array.getElem?_modify, this]

theorem take_put (cur : Array Value) (ts : List Value) (h : ts.length ≤ cur.size) : (putCells id 0 ts.toArray cur).toList.take ts.length = ts := by
  apply List.ext_getElem?
  intro j
  by_cases hj : j < ts.length
  · rw [List.getElem?_take_of_lt hj, Array.getElem?_toList]
    simp [putCells, hj, show j < cur.size by omega]
  · rw [List.getElem?_take_eq_none (by omega), List.getElem?_eq_none (by omega)]

theorem own_put {w : World} {base g n cap size m : Nat} {e : TypeId} {os : Array Obj} {xs ys : List Value} (h : w.ownsRow base e size (.slice (some ⟨g, 0, none⟩) n cap) n xs) (hy : ys.length = xs.length) :
    (grow (putRow id (Sort.ahead w m) g 0 ys.toArray) os).ownsRow base e size (.slice (some ⟨g, 0, none⟩) n cap) n ys := by
  have hl := h.1
  obtain ⟨cur, hg, hb, hn, hm, hs, hlt, _⟩ := own_holds h
  refine ⟨by omega, .inr ⟨g, cap, putCells id 0 ys.toArray cur, rfl, hb, ?_, hn, hm, by simp [putCells, hs], ?_⟩⟩
  · rw [heap_grow_old _ _ (by simpa using hlt)]
    simp [putRow, mapBlock, Sort.ahead, Array.getElem?_modify, hg, onCells]
  · rw [← hl, ← hy]
    have : n * size ≤ cap * size := Nat.mul_le_mul_right _ hn
    exact take_put cur ys (by omega)

/-- The sort, over any two structs' order: what stands behind it. -/
theorem own_sorted {α : Type} [Inhabited α] {w : World} {base g n cap k m : Nat} {e : TypeId} {os : Array Obj} (enc : α → List Value) (hk0 : 0 < k) (hk : ∀ x, (enc x).length = k) {l l' : List α}
    (h : w.ownsRow base e k (.slice (some ⟨g, 0, none⟩) n cap) n (l.flatMap enc)) (hll : l'.length = l.length) :
    (sortWorldK enc k w g 0 m l'.toArray os).ownsRow base e k (.slice (some ⟨g, 0, none⟩) n cap) n (l'.flatMap enc) ∧ w.grownBy (sortWorldK enc k w g 0 m l'.toArray os) (some g) := by
  unfold sortWorldK putRowK
  rw [flatK_eq enc k hk0 hk]
  exact ⟨own_put h (by rw [flat_len enc k hk, flat_len enc k hk, hll]), grownBy_row _⟩
theorem own_holdsK {α : Type} [Inhabited α] {w : World} {base g n cap k : Nat} {e : TypeId} (enc : α → List Value) (hk0 : 0 < k) (hk : ∀ x, (enc x).length = k) {l : List α}
    (h : w.ownsRow base e k (.slice (some ⟨g, 0, none⟩) n cap) n (l.flatMap enc)) : HoldsK enc k w g 0 l.toArray := by
  unfold HoldsK
  rw [flatK_eq enc k hk0 hk]
  obtain ⟨_, _, _, _, _, _, _, hH⟩ := own_holds h
  exact hH
/-- A list sorted by an order, in the sort's words and in mine. -/
theorem sorted_list {α : Type} [Inhabited α] {cf : α → α → Int} {l : List α} {d' : Array α} (hp : PermIn 0 l.toArray.size l.toArray d') (hs : SortedIn (ltOf cf) 0 l.toArray.size d') (hanti : ∀ a b, cf b a = - cf a b) :
    d'.toList.Perm l ∧ d'.toList.Pairwise fun a b => cf a b ≤ 0 := by
  have hsz : d'.size = l.length := by simpa using hp.1
  have h1 := hp.2.2
  have e1 : d'.extract 0 l.toArray.size = d' := by rw [List.size_toArray, ← hsz, Array.extract_size]
  have e2 : l.toArray.extract 0 l.toArray.size = l.toArray := by rw [Array.extract_size]
  rw [e1, e2] at h1
  refine ⟨h1, List.pairwise_iff_getElem.2 fun i j hi hj hij => ?_⟩
  have hj' : j < d'.size := by simpa using hj
  have hi' : i < d'.size := by simpa using hi
  have h2 := hs i j (Nat.zero_le _) hij (by simp; omega)
  rw [getElem!_pos d' j hj', getElem!_pos d' i hi'] at h2
  unfold ltOf at h2
  have h3 := of_decide_eq_false h2
  have h4 := hanti d'[i] d'[j]
  simp only [Array.getElem_toList]
  omega
end Go.Proofs.Ytlgopjfnknjgjaa
