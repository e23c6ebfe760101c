/- What the rows' proofs share: arguments opened: values, sets, predicates, attributes, events, names.
Cuts: number, first.
The rule for a region that draws its order, over any way in which memory may turn, with what its stores leave (K3's rule, turned).
The cuts around a value.
The cuts around a value: around.
Spans where they lie; slices.IndexFunc, ContainsFunc at spans, at strings, at slices (printed by gen_find.py). -/
import Derived.Test.YtabegbelkfhbcaaGreatProg
import Derived.ProofKit
import Derived.OpenShut
import Derived.ChangeOld
import Derived.SizedLaws
import Derived.Deep.Slices
import Derived.Deep.Fields
import Derived.ChangeSame
import Derived.Laws.BitsAllLaws
import Derived.ShutString
import Derived.IntWalk
import Derived.Test.YtabegbelkfhbcaaGreatPk2
import Derived.Test.YtabegbelkfhbcaaGreatPk6
import Derived.Test.YtabegbelkfhbcaaGreatPk3
namespace Go.Proofs.YtabegbelkfhbcaaGreat
open Go.RowKit Go.ChangeShapes Go.WideShapes Go.Deep

theorem own : ownKnob Tryz.prog.godebug = none := by kernel_rfl
theorem laidOut : laidOutB Tryz.prog = true := by kernel_rfl

def okN (n : Int) : Prop := -9223372036854775808 ≤ n ∧ n ≤ 9223372036854775807
structure okV (v : V) : Prop where
  k : okN v.k
  n : okN v.n
  s : v.s.length ≤ maxLen
structure okC (c : C) : Prop where
  name : c.name.length ≤ maxLen
  op : okN c.op
  v : okV c.v
  set : ∀ x ∈ c.set, okV x
structure okA (a : List UInt8 × V) : Prop where
  name : a.1.length ≤ maxLen
  v : okV a.2

theorem list_of {α : Type} {p : Nat → α → Prop} : ∀ n, (∀ i, i < n → ∃ x, p i x) → ∃ l : List α, l.length = n ∧ ∀ i (h : i < l.length), p i l[i]
  | 0, _ => ⟨[], rfl, fun i h => absurd h (Nat.not_lt_zero _)⟩
  | n + 1, h => by
    obtain ⟨l, hl, hp⟩ := list_of n fun i hi => h i (Nat.lt_succ_of_lt hi)
    obtain ⟨x, hx⟩ := h n (Nat.lt_succ_self n)
    refine ⟨l ++ [x], by simp [hl], fun i hi => ?_⟩
    rw [List.length_append, List.length_singleton] at hi
    by_cases h' : i < l.length
    · rw [List.getElem_append_left h']; exact hp i h'
    · have e : i = l.length := by omega
      subst e
      rw [List.getElem_append_right (Nat.le_refl _)]
      simp only [Nat.sub_self, List.getElem_cons_zero, hl]
      exact hx

theorem row_of_cells {α : Type} {W : World} {a : Addr} {len cap base : Nat} (f : α → List Value) (sz : Nat) (hf : ∀ x, (f x).length = sz) (hsz : 0 < sz) (hl : len ≤ cap) (hm : cap ≤ maxLen) (l : List α) (hln : l.length = cap)
    (hc : ∀ i (h : i < l.length), W.cells? base (a.add (i * sz)) sz = some (f l[i])) : Row W sz (.slice (some a) len cap) len ((l.take len).flatMap f) := by
  have hat : ∀ i (h : i < l.length) j, j < sz → W.cell? (a.add (i * sz + j)) = (f l[i])[j]? := fun i h j hj => by
    obtain ⟨_, _, h3⟩ := World.cells?_some (hc i h)
    rw [← h3 j hj, Go.Deep.add_add]
  have hspot : 0 < cap → a.spot = none := fun h => by
    have h1 := hat 0 (by omega) 0 hsz
    rw [List.getElem?_eq_getElem (by rw [hf]; exact hsz)] at h1
    simpa [Addr.add] using World.cell?_spot h1
  refine ⟨by rw [flat_len f sz hf, List.length_take]; rw [Nat.min_eq_left (by omega)], some a, cap, rfl, hl, hm, by simp, fun p hp h0 => by simp at hp; subst hp; exact hspot h0, fun j u hj => ⟨a, rfl, ?_⟩⟩
  have hjl : j < ((l.take len).flatMap f).length := by
    rcases Nat.lt_or_ge j ((l.take len).flatMap f).length with h | h
    · exact h
    · rw [List.getElem?_eq_none h] at hj; cases hj
  rw [flat_len f sz hf, List.length_take, Nat.min_eq_left (by omega)] at hjl
  have hd : j / sz < len := by rw [Nat.div_lt_iff_lt_mul hsz]; exact hjl
  have hmod : j % sz < sz := Nat.mod_lt _ hsz
  have e : j / sz * sz + j % sz = j := by rw [Nat.mul_comm]; exact Nat.div_add_mod j sz
  have hg := flat_get f sz hf (l.take len) (j / sz) (by rw [List.length_take]; omega) (j % sz) hmod
  rw [e, hj] at hg
  have h1 := hat (j / sz) (by omega) (j % sz) hmod
  rw [e] at h1
  rw [List.getElem_take] at hg
  rw [← hg] at h1
  have hps := hspot (Nat.lt_of_lt_of_le (Nat.lt_of_le_of_lt (Nat.zero_le _) hd) hl)
  have hadd : a.add j = ⟨a.block, a.off + j, none⟩ := by
    obtain ⟨xb, xo, xs⟩ := a
    simp only at hps; subst hps
    unfold Addr.add; split <;> simp_all
  rw [← hadd]; exact h1

section
variable {H : Type} {enc : TypeId × Value → H} {W : World} {base : Nat} {held : Bool}

theorem strOf_of (s : ByteArray) : strOf s.data.toList = s := by cases s; rfl
theorem str_len (s : ByteArray) : s.data.toList.length = s.size := by cases s; exact Array.length_toList
theorem i64_ok {n : Int} (h : (Lit.int .i64 n).wf = true) : okN n := by
  have := bounds_i64 h
  unfold okN; omega

set_option maxRecDepth 100000 in
theorem open_vals {fuel : Nat} {cs : List Value} {x : DataW H × List MemPlace} (h : DataW.trod enc Tryz.prog W base (fun _ => true) held fuel 50 cs = some x) : ∃ v : V, cs = vC v ∧ okV v := by
  obtain ⟨xs, n, _, _, hl, hx, hf⟩ := DataW.trod_struct Tryz.underlying50 h
  have hC : Tryz.prog.cellsOf 50 = 4 := by kernel_rfl
  rw [hC] at hl
  match cs, hl with
  | [c0, c1, c2, c3], _ =>
    match xs, hx with
    | [y0, y1, y2, y3], _ =>
      have q3 : Tryz.prog.cellsOf 3 = 1 := by kernel_rfl
      have q2 : Tryz.prog.cellsOf 2 = 1 := by kernel_rfl
      have q9 : Tryz.prog.cellsOf 9 = 1 := by kernel_rfl
      have q4 : Tryz.prog.cellsOf 4 = 1 := by kernel_rfl
      have h0 := hf 0 _ rfl
      have h1 := hf 1 _ rfl
      have h2 := hf 2 _ rfl
      have h3 := hf 3 _ rfl
      simp only [q3, q2, q9, q4, List.getElem_toArray, List.getElem_cons_zero, List.getElem_cons_succ, List.getElem?_cons_zero, List.getElem?_cons_succ, List.drop_zero, List.drop_succ_cons, List.take_succ_cons, List.take_zero] at h0 h1 h2 h3
      obtain ⟨k, e0, _, w0⟩ := DataW.trod_int Tryz.underlying3 h0
      obtain ⟨n, e1, _, w1⟩ := DataW.trod_int Tryz.underlying2 h1
      obtain ⟨s, e2, _, w2⟩ := DataW.trod_string Tryz.underlying9 h2
      obtain ⟨b, e3, _⟩ := DataW.trod_bool Tryz.underlying4 h3
      simp only [List.cons.injEq, and_true] at e0 e1 e2 e3
      subst e0; subst e1; subst e2; subst e3
      refine ⟨⟨k, n, s.data.toList, b⟩, ?_, i64_ok w0, i64_ok w1, by rw [str_len]; exact w2⟩
      unfold vC; rw [strOf_of]

set_option maxRecDepth 100000 in
theorem open_set {fuel : Nat} {h : Value} {x : DataW H × List MemPlace} (ht : DataW.trod enc Tryz.prog W base (fun _ => true) held fuel 51 [h] = some x) : ∃ l : List V, SetR W h l ∧ ∀ v ∈ l, okV v := by
  rcases open_slice Tryz.underlying51 ht with ⟨e, _⟩ | ⟨a, len, cap, m, n, D, Pl, e, _, hl, hm, hmm, _, hi⟩
  · simp only [List.cons.injEq, and_true] at e
    subst e
    exact ⟨[], SetR.nil W, fun _ h => by cases h⟩
  · simp only [List.cons.injEq, and_true] at e
    subst e
    simp only [if_true] at hmm
    subst hmm
    have hC : Tryz.prog.cellsOf 50 = 4 := by kernel_rfl
    rw [hC] at hi
    obtain ⟨l, hln, hp⟩ := list_of (p := fun i (v : V) => W.cells? base (a.add (i * 4)) 4 = some (vC v) ∧ okV v) m fun i hi' => by
      obtain ⟨cs, h1, h2⟩ := hi i hi'
      obtain ⟨v, rfl, hv⟩ := open_vals h2
      exact ⟨v, h1, hv⟩
    have hr := row_of_cells vC 4 vC_len (by decide) hl hm l hln fun i hi => (hp i hi).1
    refine ⟨l.take len, ?_, fun v hv => ?_⟩
    · unfold SetR
      have e : (l.take len).length = len := by rw [List.length_take]; omega
      rw [e]; exact hr
    · obtain ⟨i, hi, rfl⟩ := List.getElem_of_mem (List.mem_of_mem_take hv)
      exact (hp i hi).2

set_option maxRecDepth 100000 in
theorem open_cons {fuel : Nat} {cs : List Value} {x : DataW H × List MemPlace} (h : DataW.trod enc Tryz.prog W base (fun _ => true) held fuel 53 cs = some x) : ∃ c : CS, cs = csC c ∧ SetR W c.h c.c.set ∧ okC c.c := by
  obtain ⟨xs, n, _, _, hl, hx, hf⟩ := DataW.trod_struct Tryz.underlying53 h
  have hC : Tryz.prog.cellsOf 53 = 7 := by kernel_rfl
  rw [hC] at hl
  match cs, hl with
  | [c0, c1, c2, c3, c4, c5, c6], _ =>
    match xs, hx with
    | [y0, y1, y2, y3], _ =>
      have q3 : Tryz.prog.cellsOf 3 = 1 := by kernel_rfl
      have q9 : Tryz.prog.cellsOf 9 = 1 := by kernel_rfl
      have q28 : Tryz.prog.cellsOf 50 = 4 := by kernel_rfl
      have q29 : Tryz.prog.cellsOf 51 = 1 := by kernel_rfl
      have h0 := hf 0 _ rfl
      have h1 := hf 1 _ rfl
      have h2 := hf 2 _ rfl
      have h3 := hf 3 _ rfl
      simp only [q3, q9, q28, q29, List.getElem_toArray, List.getElem_cons_zero, List.getElem_cons_succ, List.getElem?_cons_zero, List.getElem?_cons_succ, List.drop_zero, List.drop_succ_cons, List.take_succ_cons, List.take_zero] at h0 h1 h2 h3
      obtain ⟨s, e0, _, w0⟩ := DataW.trod_string Tryz.underlying9 h0
      obtain ⟨k, e1, _, w1⟩ := DataW.trod_int Tryz.underlying3 h1
      obtain ⟨v, e2, w2⟩ := open_vals h2
      obtain ⟨l, e3, w3⟩ := open_set h3
      simp only [vC, List.cons.injEq, and_true] at e0 e1 e2
      obtain ⟨rfl, rfl, rfl, rfl⟩ := e2
      subst e0; subst e1
      refine ⟨⟨⟨s.data.toList, k, v, l⟩, c6⟩, ?_, e3, ⟨by rw [str_len]; exact w0, i64_ok w1, w2, w3⟩⟩
      unfold csC; rw [strOf_of]

set_option maxRecDepth 100000 in
theorem open_pred {fuel : Nat} {h : Value} {x : DataW H × List MemPlace} (ht : DataW.trod enc Tryz.prog W base (fun _ => true) held fuel 25 [h] = some x) : ∃ p : List C, PredR W h p ∧ ∀ c ∈ p, okC c := by
  rcases open_slice Tryz.underlying25 ht with ⟨e, _⟩ | ⟨a, len, cap, m, n, D, Pl, e, _, hl, hm, hmm, _, hi⟩
  · simp only [List.cons.injEq, and_true] at e
    subst e
    exact ⟨[], PredR.nil W, fun _ h => by cases h⟩
  · simp only [List.cons.injEq, and_true] at e
    subst e
    simp only [if_true] at hmm
    subst hmm
    have hC : Tryz.prog.cellsOf 53 = 7 := by kernel_rfl
    rw [hC] at hi
    obtain ⟨l, hln, hp⟩ := list_of (p := fun i (c : CS) => W.cells? base (a.add (i * 7)) 7 = some (csC c) ∧ SetR W c.h c.c.set ∧ okC c.c) m fun i hi' => by
      obtain ⟨cs, h1, h2⟩ := hi i hi'
      obtain ⟨v, rfl, hv⟩ := open_cons h2
      exact ⟨v, h1, hv⟩
    have hr := row_of_cells csC 7 csC_len (by decide) hl hm l hln fun i hi => (hp i hi).1
    have e : (l.take len).length = len := by rw [List.length_take]; omega
    have hall : ∀ x ∈ l.take len, SetR W x.h x.c.set ∧ okC x.c := fun x hx => by
      obtain ⟨i, hi, rfl⟩ := List.getElem_of_mem (List.mem_of_mem_take hx)
      exact (hp i hi).2
    refine ⟨(l.take len).map CS.c, PredR.mk _ (by rw [e]; exact hr) fun x hx => (hall x hx).1, fun c hc => ?_⟩
    obtain ⟨x, hx, rfl⟩ := List.mem_map.1 hc
    exact (hall x hx).2

set_option maxRecDepth 100000 in
theorem open_attr {fuel : Nat} {cs : List Value} {x : DataW H × List MemPlace} (h : DataW.trod enc Tryz.prog W base (fun _ => true) held fuel 87 cs = some x) : ∃ a : List UInt8 × V, cs = aC a ∧ okA a := by
  obtain ⟨xs, n, _, _, hl, hx, hf⟩ := DataW.trod_struct Tryz.underlying87 h
  have hC : Tryz.prog.cellsOf 87 = 5 := by kernel_rfl
  rw [hC] at hl
  match cs, hl with
  | [c0, c1, c2, c3, c4], _ =>
    match xs, hx with
    | [y0, y1], _ =>
      have q9 : Tryz.prog.cellsOf 9 = 1 := by kernel_rfl
      have q28 : Tryz.prog.cellsOf 50 = 4 := by kernel_rfl
      have h0 := hf 0 _ rfl
      have h1 := hf 1 _ rfl
      simp only [q9, q28, List.getElem_toArray, List.getElem_cons_zero, List.getElem_cons_succ, List.getElem?_cons_zero, List.getElem?_cons_succ, List.drop_zero, List.drop_succ_cons, List.take_succ_cons, List.take_zero] at h0 h1
      obtain ⟨s, e0, _, w0⟩ := DataW.trod_string Tryz.underlying9 h0
      obtain ⟨v, e1, w1⟩ := open_vals h1
      simp only [vC, List.cons.injEq, and_true] at e0 e1
      obtain ⟨rfl, rfl, rfl, rfl⟩ := e1
      subst e0
      refine ⟨(s.data.toList, v), ?_, by rw [str_len]; exact w0, w1⟩
      unfold aC; rw [strOf_of]

set_option maxRecDepth 100000 in
theorem open_attrs {fuel : Nat} {h : Value} {x : DataW H × List MemPlace} (ht : DataW.trod enc Tryz.prog W base (fun _ => true) held fuel 56 [h] = some x) : ∃ l : List (List UInt8 × V), AttrR W h l ∧ ∀ a ∈ l, okA a := by
  rcases open_slice Tryz.underlying56 ht with ⟨e, _⟩ | ⟨a, len, cap, m, n, D, Pl, e, _, hl, hm, hmm, _, hi⟩
  · simp only [List.cons.injEq, and_true] at e
    subst e
    exact ⟨[], AttrR.nil W, fun _ h => by cases h⟩
  · simp only [List.cons.injEq, and_true] at e
    subst e
    simp only [if_true] at hmm
    subst hmm
    have hC : Tryz.prog.cellsOf 87 = 5 := by kernel_rfl
    rw [hC] at hi
    obtain ⟨l, hln, hp⟩ := list_of (p := fun i (v : List UInt8 × V) => W.cells? base (a.add (i * 5)) 5 = some (aC v) ∧ okA v) m fun i hi' => by
      obtain ⟨cs, h1, h2⟩ := hi i hi'
      obtain ⟨v, rfl, hv⟩ := open_attr h2
      exact ⟨v, h1, hv⟩
    have hr := row_of_cells aC 5 aC_len (by decide) hl hm l hln fun i hi => (hp i hi).1
    refine ⟨l.take len, ?_, fun v hv => ?_⟩
    · unfold AttrR
      have e : (l.take len).length = len := by rw [List.length_take]; omega
      rw [e]; exact hr
    · obtain ⟨i, hi, rfl⟩ := List.getElem_of_mem (List.mem_of_mem_take hv)
      exact (hp i hi).2

set_option maxRecDepth 100000 in
theorem open_event {fuel : Nat} {cs : List Value} {x : DataW H × List MemPlace} (h : DataW.trod enc Tryz.prog W base (fun _ => true) held fuel 58 cs = some x) : ∃ (key : List UInt8) (va : Value) (l : List (List UInt8 × V)), cs = [.string (strOf key), va] ∧ AttrR W va l ∧ key.length ≤ maxLen ∧ ∀ a ∈ l, okA a := by
  obtain ⟨xs, n, _, _, hl, hx, hf⟩ := DataW.trod_struct Tryz.underlying58 h
  have hC : Tryz.prog.cellsOf 58 = 2 := by kernel_rfl
  rw [hC] at hl
  match cs, hl with
  | [c0, c1], _ =>
    match xs, hx with
    | [y0, y1], _ =>
      have q9 : Tryz.prog.cellsOf 9 = 1 := by kernel_rfl
      have q24 : Tryz.prog.cellsOf 56 = 1 := by kernel_rfl
      have h0 := hf 0 _ rfl
      have h1 := hf 1 _ rfl
      simp only [q9, q24, List.getElem_toArray, List.getElem_cons_zero, List.getElem_cons_succ, List.getElem?_cons_zero, List.getElem?_cons_succ, List.drop_zero, List.drop_succ_cons, List.take_succ_cons, List.take_zero] at h0 h1
      obtain ⟨s, e0, _, w0⟩ := DataW.trod_string Tryz.underlying9 h0
      obtain ⟨l, e1, w1⟩ := open_attrs h1
      simp only [List.cons.injEq, and_true] at e0
      subst e0
      refine ⟨s.data.toList, c1, l, ?_, e1, by rw [str_len]; exact w0, w1⟩
      rw [strOf_of]

/-! The same, of an argument. -/
set_option maxRecDepth 100000 in
theorem arg_pred {b0 : Nat} {v : Value} {d : DataW H} {p : List MemPlace} (hv : Value.okWide Tryz.prog W .any b0 25 v) (h : DataW.Trod enc Tryz.prog W base (fun _ => true) held 25 v d p) : ∃ p : List C, PredR W v p ∧ ∀ c ∈ p, okC c := by
  obtain ⟨a, len, cap, rfl⟩ := okWide_slice Tryz.underlying25 hv
  obtain ⟨fuel, hf⟩ := h
  exact open_pred hf
set_option maxRecDepth 100000 in
theorem arg_value {b0 : Nat} {v : Value} {d : DataW H} {p : List MemPlace} (hv : Value.okWide Tryz.prog W .any b0 50 v) (h : DataW.Trod enc Tryz.prog W base (fun _ => true) held 50 v d p) : ∃ x : V, v = .agg #[.int .i64 x.k, .int .i64 x.n, .string (strOf x.s), .bool x.b] ∧ okV x := by
  obtain ⟨cs, rfl, hsz⟩ := okWide_struct Tryz.underlying50 hv
  obtain ⟨fuel, hf⟩ := h
  obtain ⟨x, e, hx⟩ := open_vals hf
  refine ⟨x, ?_, hx⟩
  obtain ⟨l⟩ := cs
  simp only [Value.cells] at e
  subst e; rfl
set_option maxRecDepth 100000 in
theorem arg_event {b0 : Nat} {v : Value} {d : DataW H} {p : List MemPlace} (hv : Value.okWide Tryz.prog W .any b0 58 v) (h : DataW.Trod enc Tryz.prog W base (fun _ => true) held 58 v d p) : ∃ (key : List UInt8) (va : Value) (l : List (List UInt8 × V)), v = .agg #[.string (strOf key), va] ∧ AttrR W va l ∧ key.length ≤ maxLen ∧ ∀ a ∈ l, okA a := by
  obtain ⟨cs, rfl, hsz⟩ := okWide_struct Tryz.underlying58 hv
  obtain ⟨fuel, hf⟩ := h
  obtain ⟨key, va, l, e, h1, h2, h3⟩ := open_event hf
  refine ⟨key, va, l, ?_, h1, h2, h3⟩
  obtain ⟨l⟩ := cs
  simp only [Value.cells] at e
  subst e; rfl
set_option maxRecDepth 100000 in
theorem arg_name {b0 : Nat} {v : Value} {d : DataW H} {p : List MemPlace} (hv : Value.okWide Tryz.prog W .any b0 9 v) (h : DataW.Trod enc Tryz.prog W base (fun _ => true) held 9 v d p) : ∃ s : List UInt8, v = .string (strOf s) ∧ s.length ≤ maxLen := by
  obtain ⟨fuel, hf⟩ := h
  obtain ⟨s, e, _, hs⟩ := DataW.trod_string Tryz.underlying9 hf
  cases v with
  | agg cs => simp [Value.okWide, Cell.okWide, Cell.ok, Tryz.underlying9] at hv
  | string t =>
    simp only [Value.cells, List.cons.injEq, Value.string.injEq, and_true] at e
    subst e
    exact ⟨t.data.toList, by rw [strOf_of], by rw [str_len]; exact hs⟩
  | _ => simp [Value.cells] at e
end
end Go.Proofs.YtabegbelkfhbcaaGreat

namespace Go.Proofs.YtabegbelkfhbcaaGreat
open Go.RowKit

theorem xor_top (r : Nat) (h : r < 2 ^ 63) : r ^^^ 2 ^ 63 = r + 2 ^ 63 := by
  have e := Nat.two_pow_add_eq_or_of_lt h 1
  rw [Nat.mul_one] at e
  rw [Nat.add_comm r, e]
  apply Nat.eq_of_testBit_eq
  intro i
  rw [Nat.testBit_xor, Nat.testBit_or, Nat.testBit_two_pow]
  by_cases hi : 63 = i
  · subst hi
    rw [Nat.testBit_lt_two_pow h]; simp
  · simp [hi]
theorem xor_top2 (r : Nat) (h : r < 2 ^ 63) : (r + 2 ^ 63) ^^^ 2 ^ 63 = r := by
  rw [← xor_top r h, Nat.xor_assoc, Nat.xor_self, Nat.xor_zero]
theorem sign_bits {n : Int} (h : okN n) : bits .xor .u64 (IntKind.u64.wrap n) 9223372036854775808 = (((n + 9223372036854775808).toNat : Nat) : Int) := by
  obtain ⟨h1, h2⟩ := h
  have e1 : (9223372036854775808 : Int) = ((2 ^ 63 : Nat) : Int) := by decide
  rw [e1]
  by_cases hn : 0 ≤ n
  · obtain ⟨m, rfl⟩ : ∃ m : Nat, n = m := ⟨n.toNat, by omega⟩
    have e2 : IntKind.u64.wrap (m : Int) = (m : Int) := by simp [IntKind.wrap, IntKind.bits, IntKind.signed]; omega
    rw [e2, u64_xor_nat _ _ (by omega) (by decide), xor_top m (by omega)]
    omega
  · obtain ⟨m, hm⟩ : ∃ m : Nat, n + 9223372036854775808 = m := ⟨(n + 9223372036854775808).toNat, by omega⟩
    have e2 : IntKind.u64.wrap n = ((m + 2 ^ 63 : Nat) : Int) := by simp [IntKind.wrap, IntKind.bits, IntKind.signed]; omega
    rw [e2, u64_xor_nat _ _ (by omega) (by decide), xor_top2 m (by omega)]
    omega
theorem sign_bits0 {n : Int} (h : okN n) (h0 : 0 ≤ n) : bits .xor .u64 n 9223372036854775808 = (((n + 9223372036854775808).toNat : Nat) : Int) := by
  have := sign_bits h
  have e2 : IntKind.u64.wrap n = n := by
    obtain ⟨h1, h2⟩ := h
    simp [IntKind.wrap, IntKind.bits, IntKind.signed]; omega
  rw [e2] at this
  exact this

theorem info113s : (Tryz.prog.info? 113).map (·.size) = some 2 := by kernel_rfl
theorem num_len (n : Int) : (eightF n.toNat).length = 8 := eightN_len 8 _
set_option maxRecDepth 100000 in
set_option maxHeartbeats 2000000 in
theorem number_cut (w : World) (n : Int) (h : okN n) : Calls Tryz.prog 148 #[.int .i64 n] w fun e w' => e = .returned (.agg #[.string (strOf (numC n).a), .bool false]) ∧ Ext w w' := by
  have hb := sign_bits h
  have hb0 := sign_bits0 h
  obtain ⟨h1, h2⟩ := h
  have hm : (n + 9223372036854775808).toNat < 18446744073709551616 := by omega
  have hR := heap_alloc_new w (.cells #[.string ⟨#[]⟩, .bool false] 113)
  have hx0 : Ext w (w.alloc (.cells #[.string ⟨#[]⟩, .bool false] 113)) := (Ext.refl w).alloc _
  have hlt : w.heap.size < (w.alloc (.cells #[.string ⟨#[]⟩, .bool false] 113)).heap.size := by rw [World.size_alloc]; omega
  have he := eight_any (w.alloc (.cells #[.string ⟨#[]⟩, .bool false] 113)) _ hm
  have hs : ∀ (w2 : World) (v : Value), Bytes w2 v (eightF (n + 9223372036854775808).toNat) → (convert 189 9 v).run Tryz.prog w2 = .ok (.string (strOf (numC n).a)) w2 := fun w2 v hv => run_bytes_str w2 189 9 5 Tryz.underlying189 Tryz.underlying5 Tryz.underlying9 hv
  have HB := Lib.hid hb
  have HB0 := Lib.hid hb0
  have HS := Lib.hid hs
  have HE := Lib.hid he
  have HR := Lib.hid hR
  clear hb hb0 hs he hR
  generalize strOf (numC n).a = st at *
  by_cases hn : 0 ≤ n
  · go_enter Tryz.func148, Tryz.ntmps148
    go_wp2_with fail
    rw [HB0.out hn]
    refine HE.out.mono ?_
    rintro e w2 ⟨v, rfl, hv, hx2⟩
    have hcv := HS.out w2 v hv
    have hR2 : w2.heap[w.heap.size]? = some (.cells #[.string ⟨#[]⟩, .bool false] 113 (0, 0)) := by rw [hx2.block _ hlt]; exact HR.out
    have HR2 := Lib.hid hR2
    clear hR2
    go_wp2_with (refine wpList_store_whole 113 (.tmp 2) (.tmp 8) rfl rfl w.heap.size rfl #[.string st, .bool false] rfl _ 113 HR2.out rfl info113s (by simp [Value.oneCell']) ?_)
    have hq := setRow_heap _ _ _ #[.string st, .bool false] _ _ HR2.out
    have r0 := cell_of_row _ _ 0 _ _ _ hq
    have r1 := cell_of_row _ _ 1 _ _ _ hq
    refine bodyPost_ret (v := .agg #[.string st, .bool false]) (by simp [results, Tryz.results148, go_sem, r0, r1]) rfl ⟨rfl, (hx0.trans hx2).setRow (Nat.le_refl _) _⟩
  · go_enter Tryz.func148, Tryz.ntmps148
    go_wp2_with fail
    rw [HB.out]
    refine HE.out.mono ?_
    rintro e w2 ⟨v, rfl, hv, hx2⟩
    have hcv := HS.out w2 v hv
    have hR2 : w2.heap[w.heap.size]? = some (.cells #[.string ⟨#[]⟩, .bool false] 113 (0, 0)) := by rw [hx2.block _ hlt]; exact HR.out
    have HR2 := Lib.hid hR2
    clear hR2
    go_wp2_with (refine wpList_store_whole 113 (.tmp 2) (.tmp 8) rfl rfl w.heap.size rfl #[.string st, .bool false] rfl _ 113 HR2.out rfl info113s (by simp [Value.oneCell']) ?_)
    have hq := setRow_heap _ _ _ #[.string st, .bool false] _ _ HR2.out
    have r0 := cell_of_row _ _ 0 _ _ _ hq
    have r1 := cell_of_row _ _ 1 _ _ _ hq
    refine bodyPost_ret (v := .agg #[.string st, .bool false]) (by simp [results, Tryz.results148, go_sem, r0, r1]) rfl ⟨rfl, (hx0.trans hx2).setRow (Nat.le_refl _) _⟩

set_option maxRecDepth 100000 in
set_option maxHeartbeats 2000000 in
theorem first_any (w : World) (k : Int) : Calls Tryz.prog 128 #[.int .i64 k] w fun e w' => e = .returned (.agg #[.string (strOf (firstC k).a), .bool false]) ∧ Ext w w' := by
  have hR := heap_alloc_new w (.cells #[.string ⟨#[]⟩, .bool false] 113)
  have hx0 : Ext w (w.alloc (.cells #[.string ⟨#[]⟩, .bool false] 113)) := (Ext.refl w).alloc _
  have hlt : w.heap.size < (w.alloc (.cells #[.string ⟨#[]⟩, .bool false] 113)).heap.size := by rw [World.size_alloc]; omega
  by_cases hk : k = 1
  · have hn := number_cut (w.alloc (.cells #[.string ⟨#[]⟩, .bool false] 113)) (-9223372036854775808) ⟨by decide, by decide⟩
    have e : firstC k = numC (-9223372036854775808) := by unfold firstC; rw [if_pos hk]
    rw [e]
    have hd : (k == 1) = true := beq_iff_eq.2 hk
    have HN := Lib.hid hn
    have HR := Lib.hid hR
    clear hk e hn hR
    generalize strOf (numC (-9223372036854775808)).a = st at *
    go_enter Tryz.func128, Tryz.ntmps128
    go_wp2_with fail
    refine HN.out.mono ?_
    rintro e w2 ⟨rfl, hx2⟩
    have hR2 : w2.heap[w.heap.size]? = some (.cells #[.string ⟨#[]⟩, .bool false] 113 (0, 0)) := by rw [hx2.block _ hlt]; exact HR.out
    have HR2 := Lib.hid hR2
    clear hR2
    go_wp2_with (refine wpList_store_whole 113 (.tmp 2) (.tmp 5) rfl rfl w.heap.size rfl #[.string st, .bool false] rfl _ 113 HR2.out rfl info113s (by simp [Value.oneCell']) ?_)
    have hq := setRow_heap _ _ _ #[.string st, .bool false] _ _ HR2.out
    have r0 := cell_of_row _ _ 0 _ _ _ hq
    have r1 := cell_of_row _ _ 1 _ _ _ hq
    refine bodyPost_ret (v := .agg #[.string st, .bool false]) (by simp [results, Tryz.results128, go_sem, r0, r1]) rfl ⟨rfl, (hx0.trans hx2).setRow (Nat.le_refl _) _⟩
  · have e : firstC k = ⟨[], false⟩ := by unfold firstC; rw [if_neg hk]
    rw [e]
    have hd := beq_int_ne hk
    clear hk e
    go_enter Tryz.func128, Tryz.ntmps128
    go_wp2_with fail
    have r0 := cell_of_row _ _ 0 _ _ _ hR
    have r1 := cell_of_row _ _ 1 _ _ _ hR
    refine bodyPost_ret (v := .agg #[.string (strOf []), .bool false]) (by simp [results, Tryz.results128, go_sem, r0, r1]; rfl) rfl ⟨rfl, hx0⟩
end Go.Proofs.YtabegbelkfhbcaaGreat

namespace Go.Proofs.YtabegbelkfhbcaaGreat.Rs
open Go.RowKit

open Rg (Step)
section
variable {P : Program} (S : Step)

/-- What an operation must come to: no panic, memory only grows, its value has its fact. -/
def endQ (F : Value → World → Prop) (o : Oper) (a : Act) (w : World) : Exit → Act → World → Prop :=
  fun e a' w' => e = .normal ∧ S.rel w w' ∧ a'.defers = a.defers ∧ F (match o.dst with | some d => a'.tmps.getD d undef | none => undef) w'

def Ob (P : Program) (ops : Array Oper) (F : Nat → Value → World → Prop) (a0 : Act) (w0 : World) (i : Nat) (o : Oper) (D : List (Nat × Tmp)) : Prop :=
  ∀ w, S.rel w0 w → depsThen F w D a0 (fun a => wpList P ops (endQ S (F i) o a w) [o] a w)

def Obs (P : Program) (ops : Array Oper) (F : Nat → Value → World → Prop) (a0 : Act) (w0 : World) : Nat → List Oper → List (List (Nat × Tmp)) → Prop
  | _, [], _ => True
  | i, o :: os, D => Ob S P ops F a0 w0 i o (D.headD []) ∧ Obs P ops F a0 w0 (i + 1) os D.tail


theorem Obs_get {ops : Array Oper} {F : Nat → Value → World → Prop} {a0 : Act} {w0 : World} : ∀ {l : List Oper} {k : Nat} {D : List (List (Nat × Tmp))}, Obs S P ops F a0 w0 k l D →
    ∀ i o, l[i]? = some o → Ob S P ops F a0 w0 (k + i) o (D.getD i [])
  | [], _, _, _, _, _, h => by simp at h
  | o :: os, k, D, hb, i, o', h => by
    simp only [Obs] at hb
    cases i with
    | zero => simp at h; subst h; cases D <;> simpa using hb.1
    | succ i =>
      have := Obs_get hb.2 i o' (by simpa using h)
      cases D <;> simpa [Nat.add_assoc, Nat.add_comm 1 i] using this

structure Inv (ops : Array Oper) (F : Nat → Value → World → Prop) (a0 : Act) (w0 : World) (listed : Array Bool) (a : Act) (w : World) : Prop where
  size : listed.size = ops.size
  ts : a.tmps.size = a0.tmps.size
  df : a.defers = a0.defers
  old : ∀ s, (∀ j, dstOf ops j = some s → listed.getD j false = false) → a.tmps.getD s undef = a0.tmps.getD s undef
  fact : ∀ j, j < ops.size → listed.getD j false = true → F j (match dstOf ops j with | some d => a.tmps.getD d undef | none => undef) w
  down : ∀ j, listed.getD j false = true → ∀ i, waits ops j i = true → listed.getD i false = true
  ext : S.rel w0 w

theorem region_any {ops : Array Oper} {F : Nat → Value → World → Prop} {a0 : Act} {w0 : World} {D : List (List (Nat × Tmp))} {E : List (Nat × Tmp)} {Q : Exit → Act → World → Prop}
    (hok : opsOk ops a0.tmps.size 0 ops.toList D = true) (hE : endOk ops E = true)
    (hst : ∀ i v w w', S.rel w w' → F i v w → F i v w')
    (hob : Obs S P ops F a0 w0 0 ops.toList D)
    (hend : ∀ w, S.rel w0 w → (∀ j, j < ops.size → dstOf ops j = none → F j undef w) → depsThen F w E a0 (fun a => Q .normal a w)) :
    ∀ (fuel : Nat) (listed : Array Bool) (a : Act) (w : World), listed.count false = fuel → Inv S ops F a0 w0 listed a w → wpAny P .any ops Q fuel listed a w := by
  have hall : ∀ {i o}, ops[i]? = some o → opOk ops a0.tmps.size i o (D.getD i []) = true := fun {i o} h => by
    have := opsOk_get hok i o (by simpa using h); simpa using this
  have hobs : ∀ {i o}, ops[i]? = some o → Ob S P ops F a0 w0 i o (D.getD i []) := fun {i o} h => by
    have := Obs_get S hob i o (by simpa using h); simpa using this
  -- all that are listed: the end
  have fin : ∀ (listed : Array Bool) (a : Act) (w : World), (∀ j, j < ops.size → listed.getD j false = true) → Inv S ops F a0 w0 listed a w → Q .normal a w := by
    intro listed a w hl hI
    simp only [endOk, Bool.and_eq_true] at hE
    have hdl : ∀ {j d}, dstOf ops j = some d → j < ops.size := fun {j d} hj => by
      unfold dstOf at hj
      rcases Nat.lt_or_ge j ops.size with h' | h'
      · exact h'
      · rw [Array.getElem?_eq_none h'] at hj; cases hj
    obtain ⟨c, hk, hc1, hc2, hc3⟩ := depsThen_at a _ E a0 hI.ts.symm (fun p hp => by
      have hd : dstOf ops p.1 = some p.2 := by simpa using List.all_eq_true.1 hE.1 p hp
      have := hI.fact p.1 (hdl hd) (hl p.1 (hdl hd))
      simp only [hd] at this
      exact this) (hend w hI.ext fun j hj hd => by have := hI.fact j hj (hl j hj); simp only [hd] at this; exact this)
    have : c = a := by
      obtain ⟨ct, cd⟩ := c
      obtain ⟨at', ad⟩ := a
      have e2 : cd = ad := hc2.trans hI.df.symm
      have e1 : ct = at' := by
        apply Array.ext_getElem?
        intro s
        refine tmps_ext (a := ⟨ct, cd⟩) (b := ⟨at', ad⟩) hc1 ?_
        rw [hc3]
        split
        · rfl
        · rename_i hn
          refine (hI.old s fun j hj => ?_).symm
          exfalso
          have h2 := List.all_eq_true.1 hE.2 j (List.mem_range.2 (hdl hj))
          simp only [hj, List.any_eq_true, beq_iff_eq] at h2
          obtain ⟨p, hp, hpj⟩ := h2
          have hd : dstOf ops p.1 = some p.2 := by simpa using List.all_eq_true.1 hE.1 p hp
          rw [hpj, hj] at hd
          exact hn ⟨p, hp, (Option.some.inj hd).symm⟩
      rw [e1, e2]
    rw [← this]; exact hk
  -- nothing ready: all are listed
  have noReady : ∀ (listed : Array Bool), listed.size = ops.size → Region.ready .any ops listed = [] → ∀ j, j < ops.size → listed.getD j false = true := by
    intro listed hs hr j
    induction j using Nat.strongRecOn with
    | _ j ih =>
      intro hj
      cases hlj : listed.getD j false with
      | true => rfl
      | false =>
        exfalso
        have ho : ops[j]? = some ops[j] := by simp [hj]
        have hmem : j ∈ Region.ready .any ops listed := by
          refine mem_ready.2 ⟨?_, ops[j], ho, fun e he hb => ?_⟩
          · have : j < listed.size := hs ▸ hj
            simp [this] at hlj ⊢; exact hlj
          · have h1 := hall ho
            simp only [opOk, Bool.and_eq_true] at h1
            have h2 := (Array.all_eq_true_iff_forall_mem.1 h1.1.2) e he
            simp [hb] at h2
            exact ih e.on h2 (by omega)
        rw [hr] at hmem
        cases hmem
  intro fuel
  induction fuel with
  | zero =>
    intro listed a w hc hI
    have hl : ∀ j, j < ops.size → listed.getD j false = true := by
      intro j hj
      have hj' : j < listed.size := hI.size ▸ hj
      have := Array.count_eq_zero.1 hc
      have h2 : listed[j] ≠ false := fun e => this (e ▸ Array.getElem_mem hj')
      simp [hj']; simpa using h2
    refine ⟨?_, fin listed a w hl hI⟩
    cases hr : Region.ready .any ops listed with
    | nil => rfl
    | cons i rs =>
      have hm : i ∈ Region.ready .any ops listed := by rw [hr]; exact List.mem_cons_self
      obtain ⟨h0, o, ho, _⟩ := mem_ready.1 hm
      have hi : i < ops.size := (Array.getElem?_eq_some_iff.1 ho).1
      have h1 := hl i hi
      have hi' : i < listed.size := hI.size ▸ hi
      simp [hi'] at h0 h1
      rw [h0] at h1; cases h1
  | succ fuel ih =>
    intro listed a w hc hI
    refine ⟨fun hr => fin listed a w (noReady listed hI.size hr) hI, fun i hi => ?_⟩
    obtain ⟨h0, o, ho, hafter⟩ := mem_ready.1 hi
    have hil : i < ops.size := (Array.getElem?_eq_some_iff.1 ho).1
    have hil' : i < listed.size := hI.size ▸ hil
    have h0' : listed.getD i false = false := by simp [hil'] at h0 ⊢; exact h0
    have hopk := hall ho
    simp only [opOk, Bool.and_eq_true] at hopk
    obtain ⟨⟨⟨⟨hk1, hk2⟩, hk3⟩, hk4⟩, hk5⟩ := hopk
    have hdep2 : ∀ p ∈ D.getD i [], waits ops i p.1 = true ∧ dstOf ops p.1 = some p.2 := fun p hp => by
      have := List.all_eq_true.1 hk3 p hp
      simpa using this
    have hdeps : ∀ p ∈ D.getD i [], listed.getD p.1 false = true := fun p hp => waits_of_ready hi p.1 (hdep2 p hp).1
    have hsel : ∀ cs b, o.op ≠ .select cs b := by intro cs b e; rw [e] at hk2; cases hk2
    have hjlt : ∀ j, listed.getD j false = true → j < ops.size := fun j hj => by
      rcases Nat.lt_or_ge j listed.size with h' | h'
      · exact hI.size ▸ h'
      · simp [Array.getElem?_eq_none h'] at hj
    obtain ⟨c, hk, hc1, hc2, hc3⟩ := depsThen_at a _ (D.getD i []) a0 hI.ts.symm (fun p hp => by
      have := hI.fact p.1 (hjlt p.1 (hdeps p hp)) (hdeps p hp)
      simp only [(hdep2 p hp).2] at this
      exact this) (hobs ho w hI.ext)
    -- what the operation looks at stands in 'c' as in 'a'
    have same : ∀ s ∈ o.looksAt ops, c.tmps[s]? = a.tmps[s]? := by
      intro s hs
      refine tmps_ext hc1 ?_
      rw [hc3]
      split
      · rfl
      · rename_i hn
        refine (hI.old s fun j hj => ?_).symm
        have hjl : j < ops.size := by
          unfold dstOf at hj
          rcases Nat.lt_or_ge j ops.size with h' | h'
          · exact h'
          · rw [Array.getElem?_eq_none h'] at hj; cases hj
        have h1 := List.all_eq_true.1 (List.all_eq_true.1 hk5 s hs) j (List.mem_range.2 hjl)
        simp only [Bool.or_eq_true, bne_iff_ne, ne_eq, beq_iff_eq] at h1
        rcases h1 with ((h1 | h1) | h1) | h1
        · exact absurd hj h1
        · exfalso
          rw [List.any_eq_true] at h1
          obtain ⟨p, hp, hpj⟩ := h1
          have hd := (hdep2 p hp).2
          rw [eq_of_beq hpj, hj] at hd
          exact hn ⟨p, hp, (Option.some.inj hd).symm⟩
        · rw [h1]; exact h0'
        · cases hlj : listed.getD j false with
          | false => rfl
          | true => have := hI.down j hlj i h1; rw [h0'] at this; cases this
    have heval : execOp c.eval o = execOp a.eval o := execOp_congr o hsel fun x hx => by
      cases x with
      | tmp t =>
        have := same t (List.mem_append_left _ (List.mem_filterMap.2 ⟨.tmp t, by simpa using hx, rfl⟩))
        simp [Act.eval, this]
      | _ => rfl
    have hwant : Region.wanted o (yielded ops c.tmps) = Region.wanted o (yielded ops a.tmps) := by
      unfold Region.wanted
      cases hg : o.guard with
      | none => rfl
      | some gw =>
        obtain ⟨g, want⟩ := gw
        have hy : yielded ops c.tmps g = yielded ops a.tmps g := by
          unfold yielded
          cases ht : (ops[g]?).bind (·.dst) with
          | none => rfl
          | some t =>
            have := same t (by simp [Oper.looksAt, hg, ht])
            simp [this]
        simp only [hy]
    -- the invariant behind the operation
    have next : ∀ v w', S.rel w w' → F i (match o.dst with | some d => (c.put o.dst v).tmps.getD d undef | none => undef) w' →
        wpAny P .any ops Q fuel (listed.setIfInBounds i true) (a.put o.dst v) w' := by
      intro v w' hx hF
      have hdst : dstOf ops i = o.dst := by simp [dstOf, ho]
      refine ih _ _ _ ?_ ⟨by simpa using hI.size, by rw [put_size]; exact hI.ts, by rw [put_defers]; exact hI.df, ?_, ?_, ?_, S.trans hI.ext hx⟩
      · have hset : listed.setIfInBounds i true = listed.set i true hil' := by simp [Array.setIfInBounds, hil']
        rw [hset, Array.count_set]
        have : listed[i] = false := by simpa [hil'] using h0'
        simp [this]; omega
      · intro s hs
        have hne : o.dst ≠ some s := fun e => by
          have := hs i (hdst.trans e)
          simp [hil'] at this
        rw [put_getD_ne _ hne]
        refine hI.old s fun j hj => ?_
        by_cases hji : i = j
        · rw [← hji]; exact h0'
        · have := hs j hj
          rwa [getD_set_ne false hji] at this
      · intro j hj hlj
        by_cases hji : i = j
        · subst hji
          rw [hdst]
          cases hd : o.dst with
          | none => simp only [hd] at hF; exact hF
          | some d =>
            simp only [hd] at hF hk1
            simp only [Bool.and_eq_true, decide_eq_true_eq] at hk1
            rw [put_getD_eq _ (by rw [hc1, hI.ts]; exact hk1.1)] at hF
            show F i ((a.put (some d) v).tmps.getD d undef) w'
            rw [put_getD_eq _ (by rw [hI.ts]; exact hk1.1)]
            exact hF
        · rw [getD_set_ne false hji] at hlj
          have hfj := hst _ _ _ _ hx (hI.fact j hj hlj)
          cases hdj : dstOf ops j with
          | none => simp only [hdj] at hfj; exact hfj
          | some d =>
            simp only [hdj] at hfj
            have hne : o.dst ≠ some d := fun e => by
              rw [e] at hk1
              simp only [Bool.and_eq_true] at hk1
              have := List.all_eq_true.1 hk1.2 j (List.mem_range.2 hj)
              simp [hdj, Ne.symm hji] at this
            show F j ((a.put o.dst v).tmps.getD d undef) w'
            rw [put_getD_ne _ hne]
            exact hfj
      · intro j hlj k hw
        by_cases hji : i = j
        · subst hji; exact getD_set_true (waits_of_ready hi k hw)
        · rw [getD_set_ne false hji] at hlj
          exact getD_set_true (hI.down j hlj k hw)
    -- the operation itself
    unfold wpOp
    rw [ho]
    simp only []
    rw [← hwant]
    simp only [wpList] at hk
    split
    · rename_i hw
      rw [if_pos hw] at hk
      rcases hk with hk | ⟨_, x, y, hxy⟩
      · refine .inl ?_
        unfold Oper.wp at hk ⊢
        rw [heval] at hk
        generalize (execOp a.eval o).run P w = r at *
        cases r with
        | ok n w' =>
          cases n <;> simp only [Oper.upon] at hk ⊢
          case value u => exact next u w' hk.2.1 hk.2.2.2
          case skip => exact next undef w' hk.2.1 hk.2.2.2
          case defer d =>
            have := hk.2.2.1
            rw [put_defers] at this
            exact absurd this (by simp)
          case enter f args =>
            refine Calls.mono hk fun e w'' he => ?_
            cases e with
            | returned u => exact next u w'' he.2.1 he.2.2.2
            | panicked c => exact absurd he.1 (by simp)
            | outgrown => obtain ⟨_, _, h⟩ := he; exact absurd h.1 (by simp)
          case row row args => exact Rows.mono hk fun u w'' he => next u w'' he.2.1 he.2.2.2
        | halt x w' =>
          cases x <;> simp only [Oper.upon] at hk ⊢
          case panic u => exact absurd hk.1 (by simp)
      · exact absurd hxy.1 (by simp)
    · rename_i hw
      rw [if_neg hw] at hk
      exact next undef w hk.2.1 hk.2.2.2

/-- A fact on a value that stays true while memory only grows. -/
structure Fact where
  p : Value → World → Prop
  st : ∀ v w w', S.rel w w' → p v w → p v w'

def Fact.any : Fact S := ⟨fun _ _ => True, fun _ _ _ _ h => h⟩
def Fact.eq (u : Value) : Fact S := ⟨fun v _ => v = u, fun _ _ _ _ h => h⟩
/-- The facts of the operations in order. -/
def factAt (Fs : List (Fact S)) (i : Nat) : Value → World → Prop := (Fs.getD i (Fact.any S)).p

/-- A REGION THAT DRAWS ITS ORDER: each operation is shown once, over the facts of those that it waits for (D: for each operation their numbers and slots; E: of all). -/
theorem wp_region_facts {id : Nat} {l : List Oper} (Fs : List (Fact S)) (D : List (List (Nat × Tmp))) (E : List (Nat × Tmp)) {a0 : Act} {w0 : World} {Q : Exit → Act → World → Prop}
    (hm : P.follows .mixedOrders = true)
    (hok : (opsOk l.toArray a0.tmps.size 0 l D && endOk l.toArray E) = true)
    (hob : Obs S P l.toArray (factAt S Fs) a0 w0 0 l D)
    (hend : ∀ w, S.rel w0 w → (∀ j, j < l.toArray.size → dstOf l.toArray j = none → factAt S Fs j undef w) → depsThen (factAt S Fs) w E a0 (fun a => Q .normal a w)) :
    (Code.region id l.toArray true).wp P Q a0 w0 := by
  simp only [Bool.and_eq_true] at hok
  refine wp_region_any hm (region_any S (F := factAt S Fs) (D := D) (E := E) (w0 := w0) (by simpa using hok.1) hok.2 (fun i v w w' hx h => (Fs.getD i (Fact.any S)).st v w w' hx h) (by simpa using hob) hend _ _ _ _ ?_ ?_)
  · simp
  · have hno : ∀ j, (Array.replicate l.toArray.size false).getD j false = false := fun j => by
      simp only [Array.getD_eq_getD_getElem?, Array.getElem?_replicate]; split <;> rfl
    exact ⟨by simp, rfl, rfl, fun _ _ => rfl, fun j _ h => (by rw [hno] at h; cases h), fun j h => (by rw [hno] at h; cases h), S.drew w0⟩

theorem ob_val {F : Value → World → Prop} {ops : Array Oper} {a : Act} {w w' : World} {o : Oper} {v : Value} {d : Nat}
    (hw : Region.wanted o (yielded ops a.tmps) = true) (hr : (execOp a.eval o).run P w = .ok (.value v) w') (hx : S.rel w w') (hd : o.dst = some d) (hs : decide (d < a.tmps.size) = true) (hf : F v w') :
    wpList P ops (endQ S F o a w) [o] a w := by
  refine wpList_val hw hr (wpList_nil ⟨rfl, hx, put_defers _ _ _, ?_⟩)
  rw [hd]
  show F ((a.put (some d) v).tmps.getD d undef) w'
  rw [put_getD_eq _ (of_decide_eq_true hs)]; exact hf
theorem ob_move {F : Value → World → Prop} {ops : Array Oper} {a : Act} {w : World} {o : Oper} {x : Operand} {d : Nat}
    (hw : Region.wanted o (yielded ops a.tmps) = true) (ho : o.op = .move x) (hd : o.dst = some d) (hs : decide (d < a.tmps.size) = true) (hf : F (a.eval x) w) :
    wpList P ops (endQ S F o a w) [o] a w := ob_val S hw (by simp [execOp, ho]) (S.refl w) hd hs hf
theorem ob_assign {F : Value → World → Prop} {ops : Array Oper} {a : Act} {w : World} {o : Oper} {x : Operand} {d : Nat}
    (hw : Region.wanted o (yielded ops a.tmps) = true) (ho : o.op = .assign x) (hd : o.dst = some d) (hs : decide (d < a.tmps.size) = true) (hf : F (a.eval x) w) :
    wpList P ops (endQ S F o a w) [o] a w := ob_val S hw (by simp [execOp, ho]) (S.refl w) hd hs hf

end
end Go.Proofs.YtabegbelkfhbcaaGreat.Rs

namespace Go.Proofs.YtabegbelkfhbcaaGreat
open Go.RowKit

/-- Memory has grown; two blocks of the call's own hold what they held, or what they are to hold. -/
structure StB (b c : Nat) (X Y : Obj) (w w' : World) : Prop where
  os : w'.os = w.os
  tape : w'.tape = w.tape
  output : w'.output = w.output
  size : w.heap.size ≤ w'.heap.size
  block : ∀ k, k < w.heap.size → k ≠ b → k ≠ c → w'.heap[k]? = w.heap[k]?
  hb : b < w.heap.size → w'.heap[b]? = w.heap[b]? ∨ w'.heap[b]? = some X
  hc : c < w.heap.size → w'.heap[c]? = w.heap[c]? ∨ w'.heap[c]? = some Y
theorem StB.of_ext {b c : Nat} {X Y : Obj} {w w' : World} (h : Ext w w') : StB b c X Y w w' :=
  ⟨h.os, h.tape, h.output, h.size, fun k hk _ _ => h.block k hk, fun hk => .inl (h.block b hk), fun hk => .inl (h.block c hk)⟩
theorem StB.trans {b c : Nat} {X Y : Obj} {x y z : World} (h : StB b c X Y x y) (k : StB b c X Y y z) : StB b c X Y x z := by
  refine ⟨k.os.trans h.os, k.tape.trans h.tape, k.output.trans h.output, Nat.le_trans h.size k.size, fun i hi h1 h2 => (k.block i (Nat.lt_of_lt_of_le hi h.size) h1 h2).trans (h.block i hi h1 h2), fun hb => ?_, fun hc => ?_⟩
  · rcases k.hb (Nat.lt_of_lt_of_le hb h.size) with e | e
    · rw [e]; exact h.hb hb
    · exact .inr e
  · rcases k.hc (Nat.lt_of_lt_of_le hc h.size) with e | e
    · rw [e]; exact h.hc hc
    · exact .inr e
def StepB (b c : Nat) (X Y : Obj) : Rg.Step := ⟨StB b c X Y, fun w => StB.of_ext (Ext.refl w), fun h k => h.trans k, fun w => StB.of_ext (Ext.refl w).drew⟩
theorem StB.cell {b c : Nat} {X Y : Obj} {w w' : World} (h : StB b c X Y w w') {p : Addr} {v : Value} (hc : w.cell? p = some v) (h1 : p.block ≠ b) (h2 : p.block ≠ c) : w'.cell? p = some v := by
  rw [World.cell?_of_block (a := p) (h.block p.block (World.block_lt_of_cell? w p hc) h1 h2)]; exact hc
theorem StB.ext {b c : Nat} {X Y : Obj} {a w w' : World} (hx : Ext a w) (h : StB b c X Y w w') (hb : a.heap.size ≤ b) (hc : a.heap.size ≤ c) : Ext a w' :=
  ⟨h.os.trans hx.os, h.tape.trans hx.tape, h.output.trans hx.output, Nat.le_trans hx.size h.size, fun k hk => (h.block k (Nat.lt_of_lt_of_le hk hx.size) (by omega) (by omega)).trans (hx.block k hk)⟩
theorem StB.left {b c : Nat} {X Y : Obj} {w : World} {cs : Array Value} {t : TypeId} {r : Nat × Nat} {c0 : Array Value} (hg : w.heap[b]? = some (.cells c0 t r)) (hX : X = .cells cs t r) (hne : b ≠ c) : StB b c X Y w (w.setRow b cs) := by
  have h := setRow_heap w b c0 cs t r hg
  exact ⟨rfl, rfl, rfl, by simp, fun k hk h1 h2 => setRow_other w b k cs h1, fun _ => .inr (by rw [h, hX]), fun _ => .inl (setRow_other w b c cs (Ne.symm hne))⟩
theorem StB.right {b c : Nat} {X Y : Obj} {w : World} {cs : Array Value} {t : TypeId} {r : Nat × Nat} {c0 : Array Value} (hg : w.heap[c]? = some (.cells c0 t r)) (hY : Y = .cells cs t r) (hne : b ≠ c) : StB b c X Y w (w.setRow c cs) := by
  have h := setRow_heap w c c0 cs t r hg
  exact ⟨rfl, rfl, rfl, by simp, fun k hk h1 h2 => setRow_other w c k cs h2, fun _ => .inl (setRow_other w c b cs hne), fun _ => .inr (by rw [h, hY])⟩
/-- What a block of the two is: a row of its type still. -/
theorem StB.was {b c : Nat} {X Y : Obj} {w w' : World} (h : StB b c X Y w w') {t : TypeId} {c0 cs : Array Value} (hg : w.heap[b]? = some (.cells c0 t (0, 0))) (hX : X = .cells cs t (0, 0)) (hs : c0.size = cs.size) : ∃ c1 : Array Value, w'.heap[b]? = some (.cells c1 t (0, 0)) ∧ c1.size = cs.size := by
  rcases h.hb (Array.getElem?_eq_some_iff.1 hg).1 with e | e
  · exact ⟨c0, e.trans hg, hs⟩
  · exact ⟨cs, e.trans (by rw [hX]), rfl⟩
theorem StB.was2 {b c : Nat} {X Y : Obj} {w w' : World} (h : StB b c X Y w w') {t : TypeId} {c0 cs : Array Value} (hg : w.heap[c]? = some (.cells c0 t (0, 0))) (hY : Y = .cells cs t (0, 0)) (hs : c0.size = cs.size) : ∃ c1 : Array Value, w'.heap[c]? = some (.cells c1 t (0, 0)) ∧ c1.size = cs.size := by
  rcases h.hc (Array.getElem?_eq_some_iff.1 hg).1 with e | e
  · exact ⟨c0, e.trans hg, hs⟩
  · exact ⟨cs, e.trans (by rw [hY]), rfl⟩
def factL (b c : Nat) (X Y : Obj) : Rs.Fact (StepB b c X Y) := ⟨fun _ w => b < w.heap.size ∧ w.heap[b]? = some X, fun _ _ _ hx h => ⟨Nat.lt_of_lt_of_le h.1 hx.size, by rcases hx.hb h.1 with e | e; exact e.trans h.2; exact e⟩⟩
def factR (b c : Nat) (X Y : Obj) : Rs.Fact (StepB b c X Y) := ⟨fun _ w => c < w.heap.size ∧ w.heap[c]? = some Y, fun _ _ _ hx h => ⟨Nat.lt_of_lt_of_le h.1 hx.size, by rcases hx.hc h.1 with e | e; exact e.trans h.2; exact e⟩⟩

/-- A region's store into the one block, into the other. -/
theorem ob_left {P : Program} {ops : Array Oper} {F : Value → World → Prop} {a : Act} {w w0 : World} {o : Oper} {b c : Nat} {X Y : Obj} (ty : TypeId) (x y : Operand) (cs c0 : Array Value) (t : TypeId)
    (ho : o.op = .store ty x y) (hw : Region.wanted o (yielded ops a.tmps) = true) (hd : o.dst = none) (hx : a.eval x = .pointer (some ⟨b, 0, none⟩)) (hy : a.eval y = .agg cs) (hX : X = .cells cs t (0, 0))
    (hr : StB b c X Y w0 w) (hg : w0.heap[b]? = some (.cells c0 t (0, 0))) (hs : c0.size = cs.size) (hi : (P.info? ty).map (·.size) = some cs.size) (h1 : ∀ v ∈ cs.toList, v.oneCell' = true) (hne : b ≠ c)
    (hF : ∀ w', b < w'.heap.size → w'.heap[b]? = some X → F undef w') : wpList P ops (Rs.endQ (StepB b c X Y) F o a w) [o] a w := by
  obtain ⟨c1, hg1, hs1⟩ := hr.was hg hX hs
  refine wpList_store_whole ty x y ho hw b hx cs hy c1 t hg1 hs1 hi h1 (wpList_nil ⟨rfl, StB.left hg1 hX hne, put_defers _ _ _, ?_⟩)
  rw [hd]
  refine hF _ ?_ ?_
  · have := (Array.getElem?_eq_some_iff.1 hg1).1
    simpa using this
  · rw [setRow_heap w b c1 cs t (0, 0) hg1, hX]
theorem ob_right {P : Program} {ops : Array Oper} {F : Value → World → Prop} {a : Act} {w w0 : World} {o : Oper} {b c : Nat} {X Y : Obj} (ty : TypeId) (x y : Operand) (cs c0 : Array Value) (t : TypeId)
    (ho : o.op = .store ty x y) (hw : Region.wanted o (yielded ops a.tmps) = true) (hd : o.dst = none) (hx : a.eval x = .pointer (some ⟨c, 0, none⟩)) (hy : a.eval y = .agg cs) (hY : Y = .cells cs t (0, 0))
    (hr : StB b c X Y w0 w) (hg : w0.heap[c]? = some (.cells c0 t (0, 0))) (hs : c0.size = cs.size) (hi : (P.info? ty).map (·.size) = some cs.size) (h1 : ∀ v ∈ cs.toList, v.oneCell' = true) (hne : b ≠ c)
    (hF : ∀ w', c < w'.heap.size → w'.heap[c]? = some Y → F undef w') : wpList P ops (Rs.endQ (StepB b c X Y) F o a w) [o] a w := by
  obtain ⟨c1, hg1, hs1⟩ := hr.was2 hg hY hs
  refine wpList_store_whole ty x y ho hw c hx cs hy c1 t hg1 hs1 hi h1 (wpList_nil ⟨rfl, StB.right hg1 hY hne, put_defers _ _ _, ?_⟩)
  rw [hd]
  refine hF _ ?_ ?_
  · have := (Array.getElem?_eq_some_iff.1 hg1).1
    simpa using this
  · rw [setRow_heap w c c1 cs t (0, 0) hg1, hY]
end Go.Proofs.YtabegbelkfhbcaaGreat

namespace Go.Proofs.YtabegbelkfhbcaaGreat
open Go.RowKit

theorem info96t : (Tryz.prog.info? 113).map (·.size) = some 2 := by kernel_rfl
/-- The three boxes that around makes. -/
theorem around_boxes (w : World) (v : V) : Ext w (((w.alloc (.cells #[.int .i64 v.k, .int .i64 v.n, .string (strOf v.s), .bool v.b] 50)).alloc (.cells #[.string ⟨#[]⟩, .bool false] 113)).alloc (.cells #[.string ⟨#[]⟩, .bool false] 113)) ∧ (((w.alloc (.cells #[.int .i64 v.k, .int .i64 v.n, .string (strOf v.s), .bool v.b] 50)).alloc (.cells #[.string ⟨#[]⟩, .bool false] 113)).alloc (.cells #[.string ⟨#[]⟩, .bool false] 113)).heap[w.heap.size]? = some (.cells #[.int .i64 v.k, .int .i64 v.n, .string (strOf v.s), .bool v.b] 50 (0, 0)) ∧ (((w.alloc (.cells #[.int .i64 v.k, .int .i64 v.n, .string (strOf v.s), .bool v.b] 50)).alloc (.cells #[.string ⟨#[]⟩, .bool false] 113)).alloc (.cells #[.string ⟨#[]⟩, .bool false] 113)).heap[w.heap.size + 1]? = some (.cells #[.string ⟨#[]⟩, .bool false] 113 (0, 0)) ∧ (((w.alloc (.cells #[.int .i64 v.k, .int .i64 v.n, .string (strOf v.s), .bool v.b] 50)).alloc (.cells #[.string ⟨#[]⟩, .bool false] 113)).alloc (.cells #[.string ⟨#[]⟩, .bool false] 113)).heap[w.heap.size + 1 + 1]? = some (.cells #[.string ⟨#[]⟩, .bool false] 113 (0, 0)) := by
  refine ⟨(((Ext.refl w).alloc _).alloc _).alloc _, ?_, ?_, ?_⟩
  · have h := heap_alloc_new w (.cells #[.int .i64 v.k, .int .i64 v.n, .string (strOf v.s), .bool v.b] 50)
    rw [(((Ext.refl _).alloc (.cells #[.string ⟨#[]⟩, .bool false] 113)).alloc (.cells #[.string ⟨#[]⟩, .bool false] 113)).block _ (by rw [World.size_alloc]; omega)]
    exact h
  · have h := heap_alloc_new (w.alloc (.cells #[.int .i64 v.k, .int .i64 v.n, .string (strOf v.s), .bool v.b] 50)) (.cells #[.string ⟨#[]⟩, .bool false] 113)
    rw [World.size_alloc] at h
    rw [((Ext.refl _).alloc (.cells #[.string ⟨#[]⟩, .bool false] 113)).block _ (by rw [World.size_alloc, World.size_alloc]; omega)]
    exact h
  · have h := heap_alloc_new ((w.alloc (.cells #[.int .i64 v.k, .int .i64 v.n, .string (strOf v.s), .bool v.b] 50)).alloc (.cells #[.string ⟨#[]⟩, .bool false] 113)) (.cells #[.string ⟨#[]⟩, .bool false] 113)
    rw [World.size_alloc, World.size_alloc] at h; exact h


set_option maxRecDepth 100000 in
set_option maxHeartbeats 4000000 in
theorem around_str (w : World) (v : V) (hk : v.k = 2) (hs : v.s.length ≤ 140737488355328) :
    Calls Tryz.prog 149 #[.agg #[.int .i64 v.k, .int .i64 v.n, .string (strOf v.s), .bool v.b]] w fun e w' => e = .returned (.tuple #[.agg #[.string (strOf v.s), .bool false], .agg #[.string (strOf (v.s ++ [0])), .bool false]]) ∧ Ext w w' := by
  obtain ⟨hx0, hV, hB, hC⟩ := around_boxes w v
  have v0 := cell_of_row _ _ 0 _ _ _ hV
  have v1 := cell_of_row _ _ 1 _ _ _ hV
  have v2 := cell_of_row _ _ 2 _ _ _ hV
  have v3 := cell_of_row _ _ 3 _ _ _ hV
  have HB := Lib.hid hB
  have HC := Lib.hid hC
  clear hV hB hC

  have d1 : (v.k == 1) = false := by rw [hk]; rfl
  have d2 : (v.k == 2) = true := by rw [hk]; rfl
  have hcat : strOf v.s ++ ⟨#[0]⟩ = strOf (v.s ++ [0]) := by
    refine ByteArray.ext ?_
    show (strOf v.s ++ (⟨#[0]⟩ : ByteArray)).data = _
    rw [ByteArray.data_append]
    show v.s.toArray ++ #[0] = (v.s ++ [0]).toArray
    rw [← List.append_toArray]
  have hq : ¬ (9223372036854775807 < (strOf v.s).size + 1) := by
    have e : (strOf v.s).size = v.s.length := by show v.s.toArray.size = _; simp
    omega
  have HCAT := Lib.hid hcat
  clear hk hcat
  go_enter Tryz.func149, Tryz.ntmps149
  go_upto_region 6 with fail
  generalize ((w.alloc (.cells #[.int .i64 v.k, .int .i64 v.n, .string (strOf v.s), .bool v.b] 50)).alloc (.cells #[.string ⟨#[]⟩, .bool false] 113)).alloc (.cells #[.string ⟨#[]⟩, .bool false] 113) = w0 at *
  refine Rs.wp_region_facts (StepB (w.heap.size + 1) (w.heap.size + 1 + 1) (.cells #[.string (strOf v.s), .bool false] 113 (0, 0)) (.cells #[.string (strOf (v.s ++ [0])), .bool false] 113 (0, 0))) [Rs.Fact.eq _ (.pointer (some ⟨w.heap.size, 2, none⟩)),
      Rs.Fact.eq _ (.string (strOf v.s)),
      Rs.Fact.eq _ (.agg #[.string (strOf v.s), .bool false]),
      Rs.Fact.eq _ (.pointer (some ⟨w.heap.size, 2, none⟩)),
      Rs.Fact.eq _ (.string (strOf v.s)),
      Rs.Fact.eq _ (.string (strOf (v.s ++ [0]))),
      Rs.Fact.eq _ (.agg #[.string (strOf (v.s ++ [0])), .bool false]),
      factL (w.heap.size + 1) (w.heap.size + 1 + 1) (.cells #[.string (strOf v.s), .bool false] 113 (0, 0)) (.cells #[.string (strOf (v.s ++ [0])), .bool false] 113 (0, 0)),
      factR (w.heap.size + 1) (w.heap.size + 1 + 1) (.cells #[.string (strOf v.s), .bool false] 113 (0, 0)) (.cells #[.string (strOf (v.s ++ [0])), .bool false] 113 (0, 0))]
    [[], [(0, 32)], [(1, 33)], [], [(3, 35)], [(4, 36)], [(5, 37)], [(2, 34)], [(6, 38)]]
    [(0, 32), (1, 33), (2, 34), (3, 35), (4, 36), (5, 37), (6, 38)] (by kernel_rfl) (by kernel_rfl) ?_ ?_
  · refine ⟨?_, ?_, ?_, ?_, ?_, ?_, ?_, ?_, ?_, trivial⟩
    · intro w1 hx1; change wpList _ _ _ _ _ _; go_wp2_with fail; exact ⟨rfl, (StepB (w.heap.size + 1) (w.heap.size + 1 + 1) (.cells #[.string (strOf v.s), .bool false] 113 (0, 0)) (.cells #[.string (strOf (v.s ++ [0])), .bool false] 113 (0, 0))).refl _, rfl, rfl⟩
    · intro w1 hx1; rintro _ rfl; change wpList _ _ _ _ _ _; have m := hx1.cell v2 (by simp) (by simp; omega); go_wp2_with fail; exact ⟨rfl, (StepB (w.heap.size + 1) (w.heap.size + 1 + 1) (.cells #[.string (strOf v.s), .bool false] 113 (0, 0)) (.cells #[.string (strOf (v.s ++ [0])), .bool false] 113 (0, 0))).refl _, rfl, rfl⟩
    · intro w1 hx1; rintro _ rfl; change wpList _ _ _ _ _ _; go_wp2_with fail; exact ⟨rfl, (StepB (w.heap.size + 1) (w.heap.size + 1 + 1) (.cells #[.string (strOf v.s), .bool false] 113 (0, 0)) (.cells #[.string (strOf (v.s ++ [0])), .bool false] 113 (0, 0))).refl _, rfl, rfl⟩
    · intro w1 hx1; change wpList _ _ _ _ _ _; go_wp2_with fail; exact ⟨rfl, (StepB (w.heap.size + 1) (w.heap.size + 1 + 1) (.cells #[.string (strOf v.s), .bool false] 113 (0, 0)) (.cells #[.string (strOf (v.s ++ [0])), .bool false] 113 (0, 0))).refl _, rfl, rfl⟩
    · intro w1 hx1; rintro _ rfl; change wpList _ _ _ _ _ _; have m := hx1.cell v2 (by simp) (by simp; omega); go_wp2_with fail; exact ⟨rfl, (StepB (w.heap.size + 1) (w.heap.size + 1 + 1) (.cells #[.string (strOf v.s), .bool false] 113 (0, 0)) (.cells #[.string (strOf (v.s ++ [0])), .bool false] 113 (0, 0))).refl _, rfl, rfl⟩
    · intro w1 hx1; rintro _ rfl; change wpList _ _ _ _ _ _; rw [← HCAT.out]; go_wp2_with fail; exact ⟨rfl, (StepB (w.heap.size + 1) (w.heap.size + 1 + 1) (.cells #[.string (strOf v.s), .bool false] 113 (0, 0)) (.cells #[.string (strOf (v.s ++ [0])), .bool false] 113 (0, 0))).refl _, rfl, rfl⟩
    · intro w1 hx1; rintro _ rfl; change wpList _ _ _ _ _ _; go_wp2_with fail; exact ⟨rfl, (StepB (w.heap.size + 1) (w.heap.size + 1 + 1) (.cells #[.string (strOf v.s), .bool false] 113 (0, 0)) (.cells #[.string (strOf (v.s ++ [0])), .bool false] 113 (0, 0))).refl _, rfl, rfl⟩
    · intro w1 hx1; rintro _ rfl; change wpList _ _ _ _ _ _; exact ob_left 113 _ _ #[.string (strOf v.s), .bool false] _ 113 rfl rfl rfl rfl rfl rfl hx1 HB.out rfl info96t (by simp [Value.oneCell']) (by omega) fun _ h1 h2 => ⟨h1, h2⟩
    · intro w1 hx1; rintro _ rfl; change wpList _ _ _ _ _ _; exact ob_right 113 _ _ #[.string (strOf (v.s ++ [0])), .bool false] _ 113 rfl rfl rfl rfl rfl rfl hx1 HC.out rfl info96t (by simp [Value.oneCell']) (by omega) fun _ h1 h2 => ⟨h1, h2⟩
  · intro w1 hx1 hno; rintro _ rfl; rintro _ rfl; rintro _ rfl; rintro _ rfl; rintro _ rfl; rintro _ rfl; rintro _ rfl; refine depsThen_nil ?_; dsimp only; simp only [Act.put, List.setIfInBounds_toArray, List.set_cons_zero, List.set_cons_succ]
    have o7 : (factL (w.heap.size + 1) (w.heap.size + 1 + 1) (.cells #[.string (strOf v.s), .bool false] 113 (0, 0)) (.cells #[.string (strOf (v.s ++ [0])), .bool false] 113 (0, 0))).p undef w1 := hno 7 (by decide) rfl
    have o8 : (factR (w.heap.size + 1) (w.heap.size + 1 + 1) (.cells #[.string (strOf v.s), .bool false] 113 (0, 0)) (.cells #[.string (strOf (v.s ++ [0])), .bool false] 113 (0, 0))).p undef w1 := hno 8 (by decide) rfl
    clear hno
    go_wp2_with fail
    have L := o7.2
    have R := o8.2
    have r0 := cell_of_row _ _ 0 _ _ _ L
    have r1 := cell_of_row _ _ 1 _ _ _ L
    have s0 := cell_of_row _ _ 0 _ _ _ R
    have s1 := cell_of_row _ _ 1 _ _ _ R
    refine bodyPost_ret (v := .tuple #[.agg #[.string (strOf v.s), .bool false], .agg #[.string (strOf (v.s ++ [0])), .bool false]]) (by simp [results, Tryz.results149, go_sem, r0, r1, s0, s1]) rfl ⟨rfl, StB.ext hx0 hx1 (by omega) (by omega)⟩

set_option maxRecDepth 100000 in
set_option maxHeartbeats 4000000 in
theorem around_num (w : World) (v : V) (hk : v.k = 1) (hn : okN v.n) (hm : v.n ≠ 9223372036854775807) :
    Calls Tryz.prog 149 #[.agg #[.int .i64 v.k, .int .i64 v.n, .string (strOf v.s), .bool v.b]] w fun e w' => e = .returned (.tuple #[.agg #[.string (strOf (numC v.n).a), .bool false], .agg #[.string (strOf (numC (v.n + 1)).a), .bool false]]) ∧ Ext w w' := by
  obtain ⟨hx0, hV, hB, hC⟩ := around_boxes w v
  have v0 := cell_of_row _ _ 0 _ _ _ hV
  have v1 := cell_of_row _ _ 1 _ _ _ hV
  have v2 := cell_of_row _ _ 2 _ _ _ hV
  have v3 := cell_of_row _ _ 3 _ _ _ hV
  have HB := Lib.hid hB
  have HC := Lib.hid hC
  clear hV hB hC

  have hn1 : okN (v.n + 1) := by obtain ⟨h1, h2⟩ := hn; exact ⟨by omega, by omega⟩
  have HN0 := fun W => number_cut W v.n hn
  have HN1 := fun W => number_cut W (v.n + 1) hn1
  have d1 : (v.k == 1) = true := by rw [hk]; rfl
  have d2 : (v.n == 9223372036854775807) = false := beq_eq_false_iff_ne.2 hm
  obtain ⟨hn2, hn3⟩ := hn
  have hn4 : v.n + 1 ≤ 9223372036854775807 := by omega
  have wr1 : IntKind.i64.wrap (v.n + 1) = v.n + 1 := IntWalk.i64_in _ (by omega)
  clear hk hm hn1
  generalize strOf (numC v.n).a = lo at *
  generalize strOf (numC (v.n + 1)).a = hi at *
  generalize hnn : v.n = n at *
  have HNN := Lib.hid hnn
  clear hnn
  go_enter Tryz.func149, Tryz.ntmps149
  go_upto_region 4 with fail
  generalize ((w.alloc (.cells #[.int .i64 v.k, .int .i64 v.n, .string (strOf v.s), .bool v.b] 50)).alloc (.cells #[.string ⟨#[]⟩, .bool false] 113)).alloc (.cells #[.string ⟨#[]⟩, .bool false] 113) = w0 at *
  refine Rs.wp_region_facts (StepB (w.heap.size + 1) (w.heap.size + 1 + 1) (.cells #[.string lo, .bool false] 113 (0, 0)) (.cells #[.string hi, .bool false] 113 (0, 0))) [Rs.Fact.eq _ (.pointer (some ⟨w.heap.size, 1, none⟩)),
      Rs.Fact.eq _ (.int .i64 n),
      Rs.Fact.eq _ (.agg #[.string lo, .bool false]),
      Rs.Fact.eq _ (.pointer (some ⟨w.heap.size, 1, none⟩)),
      Rs.Fact.eq _ (.int .i64 n),
      Rs.Fact.eq _ (.int .i64 (n + 1)),
      Rs.Fact.eq _ (.agg #[.string hi, .bool false]),
      factL (w.heap.size + 1) (w.heap.size + 1 + 1) (.cells #[.string lo, .bool false] 113 (0, 0)) (.cells #[.string hi, .bool false] 113 (0, 0)),
      factR (w.heap.size + 1) (w.heap.size + 1 + 1) (.cells #[.string lo, .bool false] 113 (0, 0)) (.cells #[.string hi, .bool false] 113 (0, 0))]
    [[], [(0, 21)], [(1, 22)], [], [(3, 24)], [(4, 25)], [(5, 26)], [(2, 23)], [(6, 27)]]
    [(0, 21), (1, 22), (2, 23), (3, 24), (4, 25), (5, 26), (6, 27)] (by kernel_rfl) (by kernel_rfl) ?_ ?_
  · refine ⟨?_, ?_, ?_, ?_, ?_, ?_, ?_, ?_, ?_, trivial⟩
    · intro w1 hx1; change wpList _ _ _ _ _ _; go_wp2_with fail; exact ⟨rfl, (StepB (w.heap.size + 1) (w.heap.size + 1 + 1) (.cells #[.string lo, .bool false] 113 (0, 0)) (.cells #[.string hi, .bool false] 113 (0, 0))).refl _, rfl, rfl⟩
    · intro w1 hx1; rintro _ rfl; change wpList _ _ _ _ _ _; have m := hx1.cell v1 (by simp) (by simp; omega); go_wp2_with fail; exact ⟨rfl, (StepB (w.heap.size + 1) (w.heap.size + 1 + 1) (.cells #[.string lo, .bool false] 113 (0, 0)) (.cells #[.string hi, .bool false] 113 (0, 0))).refl _, rfl, rfl⟩
    · intro w1 hx1; rintro _ rfl; change wpList _ _ _ _ _ _; go_wp2_with fail; refine (HN0 w1).mono ?_; rintro e w2 ⟨rfl, hx2⟩; go_wp2_with fail; exact ⟨rfl, StB.of_ext hx2, rfl, rfl⟩
    · intro w1 hx1; change wpList _ _ _ _ _ _; go_wp2_with fail; exact ⟨rfl, (StepB (w.heap.size + 1) (w.heap.size + 1 + 1) (.cells #[.string lo, .bool false] 113 (0, 0)) (.cells #[.string hi, .bool false] 113 (0, 0))).refl _, rfl, rfl⟩
    · intro w1 hx1; rintro _ rfl; change wpList _ _ _ _ _ _; have m := hx1.cell v1 (by simp) (by simp; omega); go_wp2_with fail; exact ⟨rfl, (StepB (w.heap.size + 1) (w.heap.size + 1 + 1) (.cells #[.string lo, .bool false] 113 (0, 0)) (.cells #[.string hi, .bool false] 113 (0, 0))).refl _, rfl, rfl⟩
    · intro w1 hx1; rintro _ rfl; change wpList _ _ _ _ _ _; go_wp2_with fail; exact ⟨rfl, (StepB (w.heap.size + 1) (w.heap.size + 1 + 1) (.cells #[.string lo, .bool false] 113 (0, 0)) (.cells #[.string hi, .bool false] 113 (0, 0))).refl _, rfl, rfl⟩
    · intro w1 hx1; rintro _ rfl; change wpList _ _ _ _ _ _; go_wp2_with fail; refine (HN1 w1).mono ?_; rintro e w2 ⟨rfl, hx2⟩; go_wp2_with fail; exact ⟨rfl, StB.of_ext hx2, rfl, rfl⟩
    · intro w1 hx1; rintro _ rfl; change wpList _ _ _ _ _ _; exact ob_left 113 _ _ #[.string lo, .bool false] _ 113 rfl rfl rfl rfl rfl rfl hx1 HB.out rfl info96t (by simp [Value.oneCell']) (by omega) fun _ h1 h2 => ⟨h1, h2⟩
    · intro w1 hx1; rintro _ rfl; change wpList _ _ _ _ _ _; exact ob_right 113 _ _ #[.string hi, .bool false] _ 113 rfl rfl rfl rfl rfl rfl hx1 HC.out rfl info96t (by simp [Value.oneCell']) (by omega) fun _ h1 h2 => ⟨h1, h2⟩
  · intro w1 hx1 hno; rintro _ rfl; rintro _ rfl; rintro _ rfl; rintro _ rfl; rintro _ rfl; rintro _ rfl; rintro _ rfl; refine depsThen_nil ?_; dsimp only; simp only [Act.put, List.setIfInBounds_toArray, List.set_cons_zero, List.set_cons_succ]
    have o7 : (factL (w.heap.size + 1) (w.heap.size + 1 + 1) (.cells #[.string lo, .bool false] 113 (0, 0)) (.cells #[.string hi, .bool false] 113 (0, 0))).p undef w1 := hno 7 (by decide) rfl
    have o8 : (factR (w.heap.size + 1) (w.heap.size + 1 + 1) (.cells #[.string lo, .bool false] 113 (0, 0)) (.cells #[.string hi, .bool false] 113 (0, 0))).p undef w1 := hno 8 (by decide) rfl
    clear hno
    go_wp2_with fail
    have L := o7.2
    have R := o8.2
    have r0 := cell_of_row _ _ 0 _ _ _ L
    have r1 := cell_of_row _ _ 1 _ _ _ L
    have s0 := cell_of_row _ _ 0 _ _ _ R
    have s1 := cell_of_row _ _ 1 _ _ _ R
    refine bodyPost_ret (v := .tuple #[.agg #[.string lo, .bool false], .agg #[.string hi, .bool false]]) (by simp [results, Tryz.results149, go_sem, r0, r1, s0, s1]) rfl ⟨rfl, StB.ext hx0 hx1 (by omega) (by omega)⟩

set_option maxRecDepth 100000 in
set_option maxHeartbeats 4000000 in
theorem around_max (w : World) (v : V) (hk : v.k = 1) (hm : v.n = 9223372036854775807) :
    Calls Tryz.prog 149 #[.agg #[.int .i64 v.k, .int .i64 v.n, .string (strOf v.s), .bool v.b]] w fun e w' => e = .returned (.tuple #[.agg #[.string (strOf (numC v.n).a), .bool false], .agg #[.string ⟨#[]⟩, .bool true]]) ∧ Ext w w' := by
  obtain ⟨hx0, hV, hB, hC⟩ := around_boxes w v
  have v0 := cell_of_row _ _ 0 _ _ _ hV
  have v1 := cell_of_row _ _ 1 _ _ _ hV
  have v2 := cell_of_row _ _ 2 _ _ _ hV
  have v3 := cell_of_row _ _ 3 _ _ _ hV
  have HB := Lib.hid hB
  have HC := Lib.hid hC
  clear hV hB hC

  have HN0 := fun W => number_cut W v.n ⟨by omega, by omega⟩
  have d1 : (v.k == 1) = true := by rw [hk]; rfl
  have d2 : (v.n == 9223372036854775807) = true := by rw [hm]; rfl
  clear hk hm
  generalize strOf (numC v.n).a = lo at *
  go_enter Tryz.func149, Tryz.ntmps149
  go_wp2_with fail
  generalize ((w.alloc (.cells #[.int .i64 v.k, .int .i64 v.n, .string (strOf v.s), .bool v.b] 50)).alloc (.cells #[.string ⟨#[]⟩, .bool false] 113)).alloc (.cells #[.string ⟨#[]⟩, .bool false] 113) = w0 at *
  refine (HN0 w0).mono ?_
  rintro e w2 ⟨rfl, hx2⟩
  go_wp2_with fail
  refine (end_any w2).mono ?_
  rintro e w3 ⟨rfl, hx3⟩
  have hx23 := hx2.trans hx3
  have hxw := hx0.trans hx23
  have HBN := Lib.hid ((hx23.block _ (Array.getElem?_eq_some_iff.1 HB.out).1).trans HB.out)
  have HCN := Lib.hid ((hx23.block _ (Array.getElem?_eq_some_iff.1 HC.out).1).trans HC.out)
  clear hx2 hx3 hx23
  go_wp2_with (first | (refine wpList_store_whole 113 (.tmp 2) (.tmp 15) rfl rfl (w.heap.size + 1) rfl #[.string lo, .bool false] rfl _ 113 HBN.out rfl info96t (by simp [Value.oneCell']) ?_; have HB2 := Lib.hid (setRow_heap _ _ _ #[.string lo, .bool false] _ _ HBN.out); have HC2 := Lib.hid ((setRow_other _ (w.heap.size + 1) (w.heap.size + 1 + 1) #[.string lo, .bool false] (by omega)).trans HCN.out)) | (refine wpList_store_whole 113 (.tmp 3) (.tmp 16) rfl rfl (w.heap.size + 1 + 1) rfl #[.string ⟨#[]⟩, .bool true] rfl _ 113 HC2.out rfl info96t (by simp [Value.oneCell']) ?_; have HC3 := Lib.hid (setRow_heap _ _ _ #[.string ⟨#[]⟩, .bool true] _ _ HC2.out); have HB3 := Lib.hid ((setRow_other _ (w.heap.size + 1 + 1) (w.heap.size + 1) #[.string ⟨#[]⟩, .bool true] (by omega)).trans HB2.out)))
  have L := HB3.out
  have R := HC3.out
  have r0 := cell_of_row _ _ 0 _ _ _ L
  have r1 := cell_of_row _ _ 1 _ _ _ L
  have s0 := cell_of_row _ _ 0 _ _ _ R
  have s1 := cell_of_row _ _ 1 _ _ _ R
  refine bodyPost_ret (v := .tuple #[.agg #[.string lo, .bool false], .agg #[.string ⟨#[]⟩, .bool true]]) (by simp [results, Tryz.results149, go_sem, r0, r1, s0, s1]) rfl ⟨rfl, (hxw.setRow (by omega) _).setRow (by omega) _⟩

set_option maxRecDepth 100000 in
set_option maxHeartbeats 4000000 in
theorem around_true (w : World) (v : V) (h1 : v.k ≠ 1) (h2 : v.k ≠ 2) (hb : v.b = true) :
    Calls Tryz.prog 149 #[.agg #[.int .i64 v.k, .int .i64 v.n, .string (strOf v.s), .bool v.b]] w fun e w' => e = .returned (.tuple #[.agg #[.string (strOf [0]), .bool false], .agg #[.string ⟨#[]⟩, .bool true]]) ∧ Ext w w' := by
  obtain ⟨hx0, hV, hB, hC⟩ := around_boxes w v
  have v0 := cell_of_row _ _ 0 _ _ _ hV
  have v1 := cell_of_row _ _ 1 _ _ _ hV
  have v2 := cell_of_row _ _ 2 _ _ _ hV
  have v3 := cell_of_row _ _ 3 _ _ _ hV
  have HB := Lib.hid hB
  have HC := Lib.hid hC
  clear hV hB hC

  have d1 := beq_int_ne h1
  have d2 := beq_int_ne h2
  generalize v.b = vb at *
  subst hb
  clear h1 h2
  go_enter Tryz.func149, Tryz.ntmps149
  go_wp2_with fail
  generalize ((w.alloc (.cells #[.int .i64 v.k, .int .i64 v.n, .string (strOf v.s), .bool true] 50)).alloc (.cells #[.string ⟨#[]⟩, .bool false] 113)).alloc (.cells #[.string ⟨#[]⟩, .bool false] 113) = w0 at *
  refine (end_any w0).mono ?_
  rintro e w3 ⟨rfl, hx3⟩
  have hxw := hx0.trans hx3
  have HBN := Lib.hid ((hx3.block _ (Array.getElem?_eq_some_iff.1 HB.out).1).trans HB.out)
  have HCN := Lib.hid ((hx3.block _ (Array.getElem?_eq_some_iff.1 HC.out).1).trans HC.out)
  clear hx3
  go_wp2_with (first | (refine wpList_store_whole 113 (.tmp 2) (.tmp 42) rfl rfl (w.heap.size + 1) rfl #[.string ⟨#[0]⟩, .bool false] rfl _ 113 HBN.out rfl info96t (by simp [Value.oneCell']) ?_; have HB2 := Lib.hid (setRow_heap _ _ _ #[.string ⟨#[0]⟩, .bool false] _ _ HBN.out); have HC2 := Lib.hid ((setRow_other _ (w.heap.size + 1) (w.heap.size + 1 + 1) #[.string ⟨#[0]⟩, .bool false] (by omega)).trans HCN.out)) | (refine wpList_store_whole 113 (.tmp 3) (.tmp 43) rfl rfl (w.heap.size + 1 + 1) rfl #[.string ⟨#[]⟩, .bool true] rfl _ 113 HC2.out rfl info96t (by simp [Value.oneCell']) ?_; have HC3 := Lib.hid (setRow_heap _ _ _ #[.string ⟨#[]⟩, .bool true] _ _ HC2.out); have HB3 := Lib.hid ((setRow_other _ (w.heap.size + 1 + 1) (w.heap.size + 1) #[.string ⟨#[]⟩, .bool true] (by omega)).trans HB2.out)))
  have L := HB3.out
  have R := HC3.out
  have r0 := cell_of_row _ _ 0 _ _ _ L
  have r1 := cell_of_row _ _ 1 _ _ _ L
  have s0 := cell_of_row _ _ 0 _ _ _ R
  have s1 := cell_of_row _ _ 1 _ _ _ R
  refine bodyPost_ret (v := .tuple #[.agg #[.string ⟨#[0]⟩, .bool false], .agg #[.string ⟨#[]⟩, .bool true]]) (by simp [results, Tryz.results149, go_sem, r0, r1, s0, s1]) rfl ⟨rfl, (hxw.setRow (by omega) _).setRow (by omega) _⟩

set_option maxRecDepth 100000 in
set_option maxHeartbeats 4000000 in
theorem around_false (w : World) (v : V) (h1 : v.k ≠ 1) (h2 : v.k ≠ 2) (hb : v.b = false) :
    Calls Tryz.prog 149 #[.agg #[.int .i64 v.k, .int .i64 v.n, .string (strOf v.s), .bool v.b]] w fun e w' => e = .returned (.tuple #[.agg #[.string (strOf []), .bool false], .agg #[.string (strOf [0]), .bool false]]) ∧ Ext w w' := by
  obtain ⟨hx0, hV, hB, hC⟩ := around_boxes w v
  have v0 := cell_of_row _ _ 0 _ _ _ hV
  have v1 := cell_of_row _ _ 1 _ _ _ hV
  have v2 := cell_of_row _ _ 2 _ _ _ hV
  have v3 := cell_of_row _ _ 3 _ _ _ hV
  have HB := Lib.hid hB
  have HC := Lib.hid hC
  clear hV hB hC

  have d1 := beq_int_ne h1
  have d2 := beq_int_ne h2
  generalize v.b = vb at *
  subst hb
  clear h1 h2
  have HBN := HB
  have HCN := HC
  go_enter Tryz.func149, Tryz.ntmps149
  go_upto_region 9 with fail
  generalize ((w.alloc (.cells #[.int .i64 v.k, .int .i64 v.n, .string (strOf v.s), .bool false] 50)).alloc (.cells #[.string ⟨#[]⟩, .bool false] 113)).alloc (.cells #[.string ⟨#[]⟩, .bool false] 113) = w0 at *
  go_wp2_with (first | (refine wpList_store_whole 113 (.tmp 2) (.tmp 44) rfl rfl (w.heap.size + 1) rfl #[.string ⟨#[]⟩, .bool false] rfl _ 113 HBN.out rfl info96t (by simp [Value.oneCell']) ?_; have HB2 := Lib.hid (setRow_heap _ _ _ #[.string ⟨#[]⟩, .bool false] _ _ HBN.out); have HC2 := Lib.hid ((setRow_other _ (w.heap.size + 1) (w.heap.size + 1 + 1) #[.string ⟨#[]⟩, .bool false] (by omega)).trans HCN.out)) | (refine wpList_store_whole 113 (.tmp 3) (.tmp 45) rfl rfl (w.heap.size + 1 + 1) rfl #[.string ⟨#[0]⟩, .bool false] rfl _ 113 HC2.out rfl info96t (by simp [Value.oneCell']) ?_; have HC3 := Lib.hid (setRow_heap _ _ _ #[.string ⟨#[0]⟩, .bool false] _ _ HC2.out); have HB3 := Lib.hid ((setRow_other _ (w.heap.size + 1 + 1) (w.heap.size + 1) #[.string ⟨#[0]⟩, .bool false] (by omega)).trans HB2.out)))
  have L := HB3.out
  have R := HC3.out
  have r0 := cell_of_row _ _ 0 _ _ _ L
  have r1 := cell_of_row _ _ 1 _ _ _ L
  have s0 := cell_of_row _ _ 0 _ _ _ R
  have s1 := cell_of_row _ _ 1 _ _ _ R
  refine bodyPost_ret (v := .tuple #[.agg #[.string ⟨#[]⟩, .bool false], .agg #[.string ⟨#[0]⟩, .bool false]]) (by simp [results, Tryz.results149, go_sem, r0, r1, s0, s1]) rfl ⟨rfl, (hx0.setRow (by omega) _).setRow (by omega) _⟩

theorem cuts_eq {w : World} {v : V} {x y : Cut} (a b : ByteArray) (p q : Bool) (ha : strOf x.a = a) (hp : x.e = p) (hb : strOf y.a = b) (hq : y.e = q)
    (h : Calls Tryz.prog 149 #[.agg #[.int .i64 v.k, .int .i64 v.n, .string (strOf v.s), .bool v.b]] w fun e w' => e = .returned (.tuple #[.agg #[.string a, .bool p], .agg #[.string b, .bool q]]) ∧ Ext w w') :
    Calls Tryz.prog 149 #[.agg #[.int .i64 v.k, .int .i64 v.n, .string (strOf v.s), .bool v.b]] w fun e w' => e = .returned (.tuple #[.agg #[.string (strOf x.a), .bool x.e], .agg #[.string (strOf y.a), .bool y.e]]) ∧ Ext w w' := by
  subst ha; subst hp; subst hb; subst hq
  exact h
theorem around_any (w : World) (v : V) (hn : okN v.n) (hs : v.s.length ≤ 140737488355328) :
    Calls Tryz.prog 149 #[.agg #[.int .i64 v.k, .int .i64 v.n, .string (strOf v.s), .bool v.b]] w fun e w' => e = .returned (.tuple #[.agg #[.string (strOf (aroundV v).1.a), .bool (aroundV v).1.e], .agg #[.string (strOf (aroundV v).2.a), .bool (aroundV v).2.e]]) ∧ Ext w w' := by
  obtain ⟨c, hc⟩ : ∃ c, c = aroundV v := ⟨_, rfl⟩
  rw [← hc]
  by_cases h1 : v.k = 1
  · by_cases hm : v.n = 9223372036854775807
    · have e : c = (numC v.n, endC) := by rw [hc]; unfold aroundV; rw [if_pos h1, if_pos hm]
      have e1 : c.1 = numC v.n := by rw [e]
      have e2 : c.2 = endC := by rw [e]
      exact cuts_eq _ _ _ _ (by rw [e1]) (by rw [e1]; rfl) (by rw [e2]; rfl) (by rw [e2]; rfl) (around_max w v h1 hm)
    · have e : c = (numC v.n, numC (v.n + 1)) := by rw [hc]; unfold aroundV; rw [if_pos h1, if_neg hm]
      have e1 : c.1 = numC v.n := by rw [e]
      have e2 : c.2 = numC (v.n + 1) := by rw [e]
      exact cuts_eq _ _ _ _ (by rw [e1]) (by rw [e1]; rfl) (by rw [e2]) (by rw [e2]; rfl) (around_num w v h1 hn hm)
  · by_cases h2 : v.k = 2
    · have e : c = (⟨v.s, false⟩, ⟨v.s ++ [0], false⟩) := by rw [hc]; unfold aroundV; rw [if_neg h1, if_pos h2]
      have e1 : c.1 = ⟨v.s, false⟩ := by rw [e]
      have e2 : c.2 = ⟨v.s ++ [0], false⟩ := by rw [e]
      exact cuts_eq _ _ _ _ (by rw [e1]) (by rw [e1]) (by rw [e2]) (by rw [e2]) (around_str w v h2 hs)
    · cases hb : v.b with
      | true =>
        have e : c = (⟨[0], false⟩, endC) := by rw [hc]; unfold aroundV; rw [if_neg h1, if_neg h2, if_pos hb]
        have e1 : c.1 = ⟨[0], false⟩ := by rw [e]
        have e2 : c.2 = endC := by rw [e]
        have h := around_true w v h1 h2 hb
        rw [← hb]
        exact cuts_eq _ _ _ _ (by rw [e1]) (by rw [e1]) (by rw [e2]; rfl) (by rw [e2]; rfl) h
      | false =>
        have e : c = (⟨[], false⟩, ⟨[0], false⟩) := by rw [hc]; unfold aroundV; rw [if_neg h1, if_neg h2, if_neg (by rw [hb]; decide)]
        have e1 : c.1 = ⟨[], false⟩ := by rw [e]
        have e2 : c.2 = ⟨[0], false⟩ := by rw [e]
        have h := around_false w v h1 h2 hb
        rw [← hb]
        exact cuts_eq _ _ _ _ (by rw [e1]) (by rw [e1]) (by rw [e2]) (by rw [e2]) h
end Go.Proofs.YtabegbelkfhbcaaGreat

namespace Go.Proofs.YtabegbelkfhbcaaGreat
open Go.RowKit

def spC (x : Sp) : List Value := [.string (strOf x.lo.a), .bool x.lo.e, .string (strOf x.hi.a), .bool x.hi.e]
theorem spC_len (x : Sp) : (spC x).length = 4 := rfl
theorem spC_one (l : List Sp) : ∀ u ∈ l.flatMap spC, u.oneCell' = true := by
  intro u hu
  obtain ⟨x, _, hx⟩ := List.mem_flatMap.1 hu
  simp only [spC, List.mem_cons, List.not_mem_nil, or_false] at hx
  rcases hx with rfl | rfl | rfl | rfl <;> rfl
def SpR (W : World) (h : Value) (l : List Sp) : Prop := Row W 4 h l.length (l.flatMap spC)
theorem SpR.ext {W W' : World} {h : Value} {l : List Sp} (k : SpR W h l) (hx : Ext W W') : SpR W' h l := Row.ext k hx
theorem SpR.nil (W : World) : SpR W (.slice none 0 0) [] := Row.nil W 4
theorem SpR.at {W : World} {a : Option Addr} {n cap : Nat} {l : List Sp} (h : SpR W (.slice a n cap) l) {k : Nat} (hk : k < l.length) :
    ∃ B o, a = some ⟨B, o, none⟩ ∧ W.cell? ⟨B, o + k * 4, none⟩ = some (.string (strOf l[k].lo.a)) ∧ W.cell? ⟨B, o + k * 4 + 1, none⟩ = some (.bool l[k].lo.e) ∧ W.cell? ⟨B, o + k * 4 + 2, none⟩ = some (.string (strOf l[k].hi.a)) ∧ W.cell? ⟨B, o + k * 4 + 3, none⟩ = some (.bool l[k].hi.e) := by
  obtain ⟨B, o, rfl⟩ := Row.base h (by omega) (by decide)
  have g := fun j hj => flat_get spC 4 spC_len l k hk j hj
  exact ⟨B, o, rfl, Row.cellAt h (g 0 (by decide)) (by omega), Row.cellAt h (g 1 (by decide)) (by omega), Row.cellAt h (g 2 (by decide)) (by omega), Row.cellAt h (g 3 (by decide)) (by omega)⟩

def StrR (W : World) (h : Value) (l : List (List UInt8)) : Prop := Row W 1 h l.length (l.map fun s => Value.string (strOf s))
theorem StrR.ext {W W' : World} {h : Value} {l : List (List UInt8)} (k : StrR W h l) (hx : Ext W W') : StrR W' h l := Row.ext k hx
theorem StrR.nil (W : World) : StrR W (.slice none 0 0) [] := Row.nil W 1
theorem StrR.at {W : World} {a : Option Addr} {n cap : Nat} {l : List (List UInt8)} (h : StrR W (.slice a n cap) l) {k : Nat} (hk : k < l.length) :
    ∃ B o, a = some ⟨B, o, none⟩ ∧ W.cell? ⟨B, o + k, none⟩ = some (.string (strOf l[k])) := by
  obtain ⟨B, o, rfl⟩ := Row.base h (by omega) (by decide)
  exact ⟨B, o, rfl, Row.cellAt h (by rw [List.getElem?_map, List.getElem?_eq_getElem hk]; rfl) (by omega)⟩
/-- A row of slices. -/
def SlR (W : World) (h : Value) (l : List (Option Addr × Nat × Nat)) : Prop := Row W 1 h l.length (l.map fun s => Value.slice s.1 s.2.1 s.2.2)
theorem SlR.ext {W W' : World} {h : Value} {l : List (Option Addr × Nat × Nat)} (k : SlR W h l) (hx : Ext W W') : SlR W' h l := Row.ext k hx
theorem SlR.at {W : World} {a : Option Addr} {n cap : Nat} {l : List (Option Addr × Nat × Nat)} (h : SlR W (.slice a n cap) l) {k : Nat} (hk : k < l.length) :
    ∃ B o, a = some ⟨B, o, none⟩ ∧ W.cell? ⟨B, o + k, none⟩ = some (.slice l[k].1 l[k].2.1 l[k].2.2) := by
  obtain ⟨B, o, rfl⟩ := Row.base h (by omega) (by decide)
  exact ⟨B, o, rfl, Row.cellAt h (by rw [List.getElem?_map, List.getElem?_eq_getElem hk]; rfl) (by omega)⟩

set_option maxRecDepth 100000 in
set_option maxHeartbeats 2000000 in
theorem idxSp_any (w : World) (v : Value) (l : List (Sp)) (h : SpR w v l) (g : Nat) (cb : Array Value) (p : Sp → Bool) (eg : ∀ args w, (callFunc g args).run Tryz.prog w = .ok (.enter g args) w)
    (hc : ∀ (W : World) (x : Sp) , Ext w W → x ∈ l → Calls Tryz.prog g (#[.agg #[.string (strOf x.lo.a), .bool x.lo.e, .string (strOf x.hi.a), .bool x.hi.e]] ++ cb) W fun e W' => e = .returned (.bool (p x)) ∧ Ext W W') :
    Calls Tryz.prog 159 #[v, .func (.func g) #[] cb] w fun e w' => e = .returned (.int .i64 (idxP p l)) ∧ Ext w w' := by
  obtain ⟨a, cap, rfl, hcc, hm⟩ := Row.shape h
  unfold maxLen at hm
  generalize hn : l.length = n at *
  have HN := Lib.hid hn
  clear hn
  have HC := Lib.hid hc
  clear hc
  go_enter Tryz.func159, Tryz.ntmps159
  go_wp2_with fail
  go_loopw [5, 8] (fun _ i wr => ∃ k : Nat, k ≤ n ∧ i = .int .i64 k ∧ Hid (∀ x ∈ l.take k, p x = false) ∧ Ext w wr) (fun _ i _ => n - (intOf i).toNat)
  case atStart => exact ⟨0, Nat.zero_le _, rfl, (by show ∀ x ∈ l.take 0, _; simp), Ext.refl w⟩
  case round =>
    obtain ⟨k, hk, rfl, hall, hx⟩ := hrel
    by_cases hlt : k < n
    · have k1 : k < l.length := by rw [HN.out]; exact hlt
      have hI : decide ((k : Int) < (n : Int)) = true := decide_eq_true (by omega)
      have hext := h.ext hx
      obtain ⟨B1, o1, rfl, f0, f1, f2, f3⟩ := SpR.at hext k1
      have hcall := HC.out _ l[k] hx (List.getElem_mem k1)
      have hhit : p l[k] = true → idxP p l = k := fun e => idxP_hit k1 hall.out e
      have hnext : p l[k] = false → ∀ x ∈ l.take (k + 1), p x = false := fun e x hx => by
        rw [List.take_succ_eq_append_getElem k1] at hx
        rcases List.mem_append.1 hx with hx | hx
        · exact hall.out x hx
        · rw [List.mem_singleton.1 hx]; exact e
      generalize l[k] = x at *
      have HCALL := Lib.hid hcall
      clear hcall
      cases hq : p x with
      | true =>
        have hres := Lib.hid (hhit hq)
        have HQ := Lib.hid hq
        clear hhit hnext hq
        go_wp2_with (go_at_fn g; refine HCALL.out.mono ?_; rw [HQ.out]; rintro e w2 ⟨rfl, hx2⟩)
        go_ret
        exact ⟨by rw [hres.out]; rfl, hx.trans hx2⟩
      | false =>
        have hres := Lib.hid (hnext hq)
        have HQ := Lib.hid hq
        clear hhit hnext hq
        go_wp2_with (go_at_fn g; refine HCALL.out.mono ?_; rw [HQ.out]; rintro e w2 ⟨rfl, hx2⟩)
        go_roundw
        case rel => exact ⟨k + 1, hlt, by go_num, hres.out, hx.trans hx2⟩
        case measure => simp [intOf]; omega
    · obtain rfl : k = n := by omega
      have hI : decide ((k : Int) < (k : Int)) = false := decide_eq_false (by omega)
      have hres : Hid (idxP p l = -1) := by
        show _ = _
        refine idxP_miss fun x hx => hall.out x ?_
        rw [List.take_of_length_le (by rw [HN.out]; exact Nat.le_refl _)]; exact hx
      go_wp2_with fail
      go_ret
      exact ⟨by rw [hres.out]; rfl, hx⟩

set_option maxRecDepth 100000 in
set_option maxHeartbeats 2000000 in
theorem idxSl_any (w : World) (v : Value) (l : List (Option Addr × Nat × Nat)) (h : SlR w v l) (g : Nat) (cb : Array Value) (p : Option Addr × Nat × Nat → Bool) (eg : ∀ args w, (callFunc g args).run Tryz.prog w = .ok (.enter g args) w)
    (hc : ∀ (W : World) (x : Option Addr × Nat × Nat) , Ext w W → x ∈ l → Calls Tryz.prog g (#[.slice x.1 x.2.1 x.2.2] ++ cb) W fun e W' => e = .returned (.bool (p x)) ∧ Ext W W') :
    Calls Tryz.prog 143 #[v, .func (.func g) #[] cb] w fun e w' => e = .returned (.int .i64 (idxP p l)) ∧ Ext w w' := by
  obtain ⟨a, cap, rfl, hcc, hm⟩ := Row.shape h
  unfold maxLen at hm
  generalize hn : l.length = n at *
  have HN := Lib.hid hn
  clear hn
  have HC := Lib.hid hc
  clear hc
  go_enter Tryz.func143, Tryz.ntmps143
  go_wp2_with fail
  go_loopw [5, 8] (fun _ i wr => ∃ k : Nat, k ≤ n ∧ i = .int .i64 k ∧ Hid (∀ x ∈ l.take k, p x = false) ∧ Ext w wr) (fun _ i _ => n - (intOf i).toNat)
  case atStart => exact ⟨0, Nat.zero_le _, rfl, (by show ∀ x ∈ l.take 0, _; simp), Ext.refl w⟩
  case round =>
    obtain ⟨k, hk, rfl, hall, hx⟩ := hrel
    by_cases hlt : k < n
    · have k1 : k < l.length := by rw [HN.out]; exact hlt
      have hI : decide ((k : Int) < (n : Int)) = true := decide_eq_true (by omega)
      have hext := h.ext hx
      obtain ⟨B1, o1, rfl, f0⟩ := SlR.at hext k1
      have hcall := HC.out _ l[k] hx (List.getElem_mem k1)
      have hhit : p l[k] = true → idxP p l = k := fun e => idxP_hit k1 hall.out e
      have hnext : p l[k] = false → ∀ x ∈ l.take (k + 1), p x = false := fun e x hx => by
        rw [List.take_succ_eq_append_getElem k1] at hx
        rcases List.mem_append.1 hx with hx | hx
        · exact hall.out x hx
        · rw [List.mem_singleton.1 hx]; exact e
      generalize l[k] = x at *
      have HCALL := Lib.hid hcall
      clear hcall
      cases hq : p x with
      | true =>
        have hres := Lib.hid (hhit hq)
        have HQ := Lib.hid hq
        clear hhit hnext hq
        go_wp2_with (go_at_fn g; refine HCALL.out.mono ?_; rw [HQ.out]; rintro e w2 ⟨rfl, hx2⟩)
        go_ret
        exact ⟨by rw [hres.out]; rfl, hx.trans hx2⟩
      | false =>
        have hres := Lib.hid (hnext hq)
        have HQ := Lib.hid hq
        clear hhit hnext hq
        go_wp2_with (go_at_fn g; refine HCALL.out.mono ?_; rw [HQ.out]; rintro e w2 ⟨rfl, hx2⟩)
        go_roundw
        case rel => exact ⟨k + 1, hlt, by go_num, hres.out, hx.trans hx2⟩
        case measure => simp [intOf]; omega
    · obtain rfl : k = n := by omega
      have hI : decide ((k : Int) < (k : Int)) = false := decide_eq_false (by omega)
      have hres : Hid (idxP p l = -1) := by
        show _ = _
        refine idxP_miss fun x hx => hall.out x ?_
        rw [List.take_of_length_le (by rw [HN.out]; exact Nat.le_refl _)]; exact hx
      go_wp2_with fail
      go_ret
      exact ⟨by rw [hres.out]; rfl, hx⟩

set_option maxRecDepth 100000 in
set_option maxHeartbeats 2000000 in
theorem hasSl_any (w : World) (v : Value) (l : List (Option Addr × Nat × Nat)) (h : SlR w v l) (g : Nat) (cb : Array Value) (p : Option Addr × Nat × Nat → Bool) (eg : ∀ args w, (callFunc g args).run Tryz.prog w = .ok (.enter g args) w)
    (hc : ∀ (W : World) (x : Option Addr × Nat × Nat) , Ext w W → x ∈ l → Calls Tryz.prog g (#[.slice x.1 x.2.1 x.2.2] ++ cb) W fun e W' => e = .returned (.bool (p x)) ∧ Ext W W') :
    Calls Tryz.prog 117 #[v, .func (.func g) #[] cb] w fun e w' => e = .returned (.bool (l.any p)) ∧ Ext w w' := by
  have hcon := idxSl_any w v l h g cb p eg hc
  have hb := Lib.hid (idxP_any p l)
  clear hc
  generalize idxP p l = i at *
  obtain ⟨a, cap, rfl, hcc, hm⟩ := Row.shape h
  go_enter Tryz.func117, Tryz.ntmps117
  go_wp2_with (go_at_call 143; refine hcon.mono ?_; rintro e w' ⟨rfl, hx⟩)
  go_ret
  exact ⟨by rw [hb.out]; rfl, hx⟩


theorem ent133 : ∀ args w, (callFunc 152 args).run Tryz.prog w = .ok (.enter 152 args) w := enters_of Tryz.func152 (by kernel_rfl) rfl
theorem ent81 : ∀ args w, (callFunc 118 args).run Tryz.prog w = .ok (.enter 118 args) w := enters_of Tryz.func118 (by kernel_rfl) rfl
set_option maxRecDepth 100000 in
set_option maxHeartbeats 2000000 in
theorem full133_any (w : World) (x : Sp) : Calls Tryz.prog 152 #[.agg #[.string (strOf x.lo.a), .bool x.lo.e, .string (strOf x.hi.a), .bool x.hi.e]] w fun e w' => e = .returned (.bool (!Cut.lt x.lo x.hi)) ∧ Ext w w' := by
  have hx0 : Ext w (w.alloc (.cells #[.string (strOf x.lo.a), .bool x.lo.e, .string (strOf x.hi.a), .bool x.hi.e] 115)) := (Ext.refl w).alloc _
  have hc := fun W => less_any W x.lo x.hi
  generalize Cut.lt x.lo x.hi = b at *
  go_enter Tryz.func152, Tryz.ntmps152
  go_wp2_with (go_at_call 153; refine (hc _).mono ?_; rintro e w2 ⟨rfl, hx2⟩)
  go_ret
  exact ⟨rfl, hx0.trans hx2⟩
set_option maxRecDepth 100000 in
theorem len81_any (w : World) (a : Option Addr) (n c : Nat) (hn : n ≤ 9223372036854775807) : Calls Tryz.prog 118 #[.slice a n c] w fun e w' => e = .returned (.bool (decide (0 < n))) ∧ Ext w w' := by
  by_cases h : 0 < n
  · have hd : decide ((0 : Int) < (n : Int)) = true := decide_eq_true (by omega)
    rw [decide_eq_true h]
    go_enter Tryz.func118, Tryz.ntmps118
    go_wp2
    go_ret
    exact ⟨rfl, Ext.refl w⟩
  · have hd : decide ((0 : Int) < (n : Int)) = false := decide_eq_false (by omega)
    rw [decide_eq_false h]
    go_enter Tryz.func118, Tryz.ntmps118
    go_wp2
    go_ret
    exact ⟨rfl, Ext.refl w⟩
end Go.Proofs.YtabegbelkfhbcaaGreat
