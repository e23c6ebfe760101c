/- Arguments opened: items, strings. -/
import Derived.Test.YtlgopjfnknjgjaaD10
import Derived.Test.YtlgopjfnknjgjaaR1
namespace Go.Proofs.Ytlgopjfnknjgjaa
open Go.RowKit Go.ChangeShapes Go.WideShapes Go.Deep

theorem list_of {α : Type} {p : Nat → α → Prop} : ∀ n, (∀ i, i < n → ∃ x, p i x) → ∃ l : List α, l.length = n ∧ ∀ i (h : i < l.length), p i l[i]
  | 0, _ => ⟨[], rfl, fun i h => absurd h (Nat.not_lt_zero _)⟩
  | n + 1, h => by
    obtain ⟨l, hl, hp⟩ := list_of n fun i hi => h i (Nat.lt_succ_of_lt hi)
    obtain ⟨x, hx⟩ := h n (Nat.lt_succ_self n)
    refine ⟨l ++ [x], by simp [hl], fun i hi => ?_⟩
    rw [List.length_append, List.length_singleton] at hi
    by_cases h' : i < l.length
    · rw [List.getElem_append_left h']; exact hp i h'
    · have e : i = l.length := by omega
      subst e
      rw [List.getElem_append_right (Nat.le_refl _)]
      simp only [Nat.sub_self, List.getElem_cons_zero, hl]
      exact hx

theorem row_of_cells {α : Type} {W : World} {a : Addr} {len cap base : Nat} (f : α → List Value) (sz : Nat) (hf : ∀ x, (f x).length = sz) (hsz : 0 < sz) (hl : len ≤ cap) (hm : cap ≤ maxLen) (l : List α) (hln : l.length = cap)
    (hc : ∀ i (h : i < l.length), W.cells? base (a.add (i * sz)) sz = some (f l[i])) : Row W sz (.slice (some a) len cap) len ((l.take len).flatMap f) := by
  have hat : ∀ i (h : i < l.length) j, j < sz → W.cell? (a.add (i * sz + j)) = (f l[i])[j]? := fun i h j hj => by
    obtain ⟨_, _, h3⟩ := World.cells?_some (hc i h)
    rw [← h3 j hj, Go.Deep.add_add]
  have hspot : 0 < cap → a.spot = none := fun h => by
    have h1 := hat 0 (by omega) 0 hsz
    rw [List.getElem?_eq_getElem (by rw [hf]; exact hsz)] at h1
    simpa [Addr.add] using World.cell?_spot h1
  refine ⟨by rw [flat_len f sz hf, List.length_take]; rw [Nat.min_eq_left (by omega)], some a, cap, rfl, hl, hm, by simp, fun p hp h0 => by simp at hp; subst hp; exact hspot h0, fun j u hj => ⟨a, rfl, ?_⟩⟩
  have hjl : j < ((l.take len).flatMap f).length := by
    rcases Nat.lt_or_ge j ((l.take len).flatMap f).length with h | h
    · exact h
    · rw [List.getElem?_eq_none h] at hj; cases hj
  rw [flat_len f sz hf, List.length_take, Nat.min_eq_left (by omega)] at hjl
  have hd : j / sz < len := by rw [Nat.div_lt_iff_lt_mul hsz]; exact hjl
  have hmod : j % sz < sz := Nat.mod_lt _ hsz
  have e : j / sz * sz + j % sz = j := by rw [Nat.mul_comm]; exact Nat.div_add_mod j sz
  have hg := flat_get f sz hf (l.take len) (j / sz) (by rw [List.length_take]; omega) (j % sz) hmod
  rw [e, hj] at hg
  have h1 := hat (j / sz) (by omega) (j % sz) hmod
  rw [e] at h1
  rw [List.getElem_take] at hg
  rw [← hg] at h1
  have hps := hspot (Nat.lt_of_lt_of_le (Nat.lt_of_le_of_lt (Nat.zero_le _) hd) hl)
  have hadd : a.add j = ⟨a.block, a.off + j, none⟩ := by
    obtain ⟨xb, xo, xs⟩ := a
    simp only at hps; subst hps
    unfold Addr.add; split <;> simp_all
  rw [← hadd]; exact h1

section
variable {H : Type} {enc : TypeId × Value → H} {W : World} {base : Nat} {held : Bool}

theorem strOf_of (s : ByteArray) : strOf s.data.toList = s := by cases s; rfl
theorem str_len (s : ByteArray) : s.data.toList.length = s.size := by cases s; exact Array.length_toList
theorem u64_nat {a : Int} (h : (Lit.int .u64 a).wf = true) : ∃ n : Nat, a = (n : Int) ∧ n < 18446744073709551616 := by
  have := bounds_u64 h
  exact ⟨a.toNat, by omega, by omega⟩
theorem u16_nat {a : Int} (h : (Lit.int .u16 a).wf = true) : ∃ n : Nat, a = (n : Int) ∧ n < 65536 := by
  have := bounds_u16 h
  exact ⟨a.toNat, by omega, by omega⟩
def okI (x : IT) : Prop := x.n < 18446744073709551616 ∧ ∃ a n c, x.h = .slice a n c
set_option maxRecDepth 100000 in
theorem open_evt {fuel : Nat} {cs : List Value} {x : DataW H × List MemPlace} (h : DataW.trod enc Try.prog W base (fun _ => true) held fuel 31 cs = some x) : ∃ (key : List UInt8) (a : Option Addr) (n c : Nat), cs = [.string (strOf key), .slice a n c] := by
  obtain ⟨xs, n, _, _, hl, hx, hf⟩ := DataW.trod_struct Try.underlying31 h
  have hC : Try.prog.cellsOf 31 = 2 := by kernel_rfl
  rw [hC] at hl
  match cs, hl with
  | [c0, c1], _ =>
    match xs, hx with
    | [y0, y1], _ =>
      have q9 : Try.prog.cellsOf 9 = 1 := by kernel_rfl
      have q29 : Try.prog.cellsOf 29 = 1 := by kernel_rfl
      have h0 := hf 0 _ rfl
      have h1 := hf 1 _ rfl
      simp only [q9, q29, List.getElem_toArray, List.getElem_cons_zero, List.getElem_cons_succ, List.getElem?_cons_zero, List.getElem?_cons_succ, List.drop_zero, List.drop_succ_cons, List.take_succ_cons, List.take_zero] at h0 h1
      obtain ⟨s, e0, _, w0⟩ := DataW.trod_string Try.underlying9 h0
      simp only [List.cons.injEq, and_true] at e0
      subst e0
      rcases open_slice Try.underlying29 h1 with ⟨e, _⟩ | ⟨a, len, cap, m, n, D, Pl, e, _⟩
      · simp only [List.cons.injEq, and_true] at e
        subst e
        exact ⟨s.data.toList, none, 0, 0, by rw [strOf_of]⟩
      · simp only [List.cons.injEq, and_true] at e
        subst e
        exact ⟨s.data.toList, some a, len, cap, by rw [strOf_of]⟩
set_option maxRecDepth 100000 in
theorem open_item {fuel : Nat} {cs : List Value} {x : DataW H × List MemPlace} (h : DataW.trod enc Try.prog W base (fun _ => true) held fuel 33 cs = some x) : ∃ v : IT, cs = iC v ∧ okI v := by
  obtain ⟨xs, n, _, _, hl, hx, hf⟩ := DataW.trod_struct Try.underlying33 h
  have hC : Try.prog.cellsOf 33 = 4 := by kernel_rfl
  rw [hC] at hl
  match cs, hl with
  | [c0, c1, c2, c3], _ =>
    match xs, hx with
    | [y0, y1, y2], _ =>
      have q28 : Try.prog.cellsOf 28 = 1 := by kernel_rfl
      have q31 : Try.prog.cellsOf 31 = 2 := by kernel_rfl
      have h0 := hf 0 _ rfl
      have h1 := hf 1 _ rfl
      have h2 := hf 2 _ rfl
      simp only [q28, q31, List.getElem_toArray, List.getElem_cons_zero, List.getElem_cons_succ, List.getElem?_cons_zero, List.getElem?_cons_succ, List.drop_zero, List.drop_succ_cons, List.take_succ_cons, List.take_zero] at h0 h1 h2
      obtain ⟨k, e0, _, w0⟩ := DataW.trod_int Try.underlying28 h0
      obtain ⟨t, e1, _, w1⟩ := DataW.trod_int Try.underlying28 h1
      obtain ⟨key, a, m, c, e2⟩ := open_evt h2
      simp only [List.cons.injEq, and_true] at e0 e1 e2
      obtain ⟨rfl, rfl⟩ := e2
      subst e0; subst e1
      obtain ⟨kn, rfl, hk⟩ := u64_nat w0
      obtain ⟨tn, rfl, ht⟩ := u64_nat w1
      exact ⟨⟨kn, tn, key, .slice a m c⟩, rfl, hk, a, m, c, rfl⟩
set_option maxRecDepth 100000 in
theorem open_items {fuel : Nat} {h : Value} {x : DataW H × List MemPlace} (ht : DataW.trod enc Try.prog W base (fun _ => true) held fuel 22 [h] = some x) : ∃ us : List IT, ItemR W h us ∧ ∀ y ∈ us, okI y := by
  rcases open_slice Try.underlying22 ht with ⟨e, _⟩ | ⟨a, len, cap, m, n, D, Pl, e, _, hl, hm, hmm, _, hi⟩
  · simp only [List.cons.injEq, and_true] at e
    subst e
    exact ⟨[], ItemR.nil W, fun _ h => by cases h⟩
  · simp only [List.cons.injEq, and_true] at e
    subst e
    simp only [if_true] at hmm
    subst hmm
    have hC : Try.prog.cellsOf 33 = 4 := by kernel_rfl
    rw [hC] at hi
    obtain ⟨l, hln, hp⟩ := list_of (p := fun i (v : IT) => W.cells? base (a.add (i * 4)) 4 = some (iC v) ∧ okI v) m fun i hi' => by
      obtain ⟨cs, h1, h2⟩ := hi i hi'
      obtain ⟨v, rfl, hv⟩ := open_item h2
      exact ⟨v, h1, hv⟩
    have hr := row_of_cells iC 4 iC_len (by decide) hl hm l hln fun i hi => (hp i hi).1
    have e : (l.take len).length = len := by rw [List.length_take]; omega
    have hall : ∀ y ∈ l.take len, okI y := fun y hy => by
      obtain ⟨i, hi, rfl⟩ := List.getElem_of_mem (List.mem_of_mem_take hy)
      exact (hp i hi).2
    exact ⟨l.take len, ⟨by rw [e]; exact hr, fun y hy => (hall y hy).2⟩, hall⟩
set_option maxRecDepth 100000 in
theorem arg_items {b0 : Nat} {v : Value} {d : DataW H} {p : List MemPlace} (hv : Value.okWide Try.prog W .any b0 22 v) (h : DataW.Trod enc Try.prog W base (fun _ => true) held 22 v d p) : ∃ us : List IT, ItemR W v us ∧ ∀ y ∈ us, okI y := by
  obtain ⟨a, len, cap, rfl⟩ := okWide_slice Try.underlying22 hv
  obtain ⟨fuel, hf⟩ := h
  exact open_items hf
set_option maxRecDepth 100000 in
theorem open_strs {fuel : Nat} {h : Value} {x : DataW H × List MemPlace} (ht : DataW.trod enc Try.prog W base (fun _ => true) held fuel 40 [h] = some x) : ∃ l : List (List UInt8), StR W h l := by
  rcases open_slice Try.underlying40 ht with ⟨e, _⟩ | ⟨a, len, cap, m, n, D, Pl, e, _, hl, hm, hmm, _, hi⟩
  · simp only [List.cons.injEq, and_true] at e
    subst e
    exact ⟨[], Row.nil W 1⟩
  · simp only [List.cons.injEq, and_true] at e
    subst e
    simp only [if_true] at hmm
    subst hmm
    have hC : Try.prog.cellsOf 9 = 1 := by kernel_rfl
    rw [hC] at hi
    obtain ⟨l, hln, hp⟩ := list_of (p := fun i (v : List UInt8) => W.cells? base (a.add (i * 1)) 1 = some [stC v]) m fun i hi' => by
      obtain ⟨cs, h1, h2⟩ := hi i hi'
      obtain ⟨s, e0, _, w0⟩ := DataW.trod_string Try.underlying9 h2
      subst e0
      exact ⟨s.data.toList, by rw [h1]; unfold stC; rw [strOf_of]⟩
    have hr := row_of_cells (fun v => [stC v]) 1 (fun _ => rfl) (by decide) hl hm l hln fun i hi => hp i hi
    have e : (l.take len).length = len := by rw [List.length_take]; omega
    refine ⟨l.take len, ?_⟩
    unfold StR
    rw [e]
    have e2 : (l.take len).flatMap (fun v => [stC v]) = (l.take len).map stC := by
      induction l.take len with | nil => rfl | cons y l ih => rw [List.flatMap_cons, List.map_cons, ih]; rfl
    rw [← e2]; exact hr
set_option maxRecDepth 100000 in
theorem arg_strs {b0 : Nat} {v : Value} {d : DataW H} {p : List MemPlace} (hv : Value.okWide Try.prog W .any b0 40 v) (h : DataW.Trod enc Try.prog W base (fun _ => true) held 40 v d p) : ∃ l : List (List UInt8), StR W v l := by
  obtain ⟨a, len, cap, rfl⟩ := okWide_slice Try.underlying40 hv
  obtain ⟨fuel, hf⟩ := h
  exact open_strs hf
end
end Go.Proofs.Ytlgopjfnknjgjaa
