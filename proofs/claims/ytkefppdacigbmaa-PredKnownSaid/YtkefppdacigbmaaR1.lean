/- What the rows' proofs share: arguments opened: values, sets, predicates, attributes, events, names. -/
import Derived.Test.YtkefppdacigbmaaL1
import Derived.Test.YtkefppdacigbmaaProg
import Derived.ProofKit
import Derived.OpenShut
import Derived.ChangeOld
import Derived.SizedLaws
import Derived.Deep.Slices
import Derived.Deep.Fields
import Derived.ChangeSame
namespace Go.Proofs.Ytkefppdacigbmaa
open Go.RowKit Go.ChangeShapes Go.WideShapes Go.Deep

theorem own : ownKnob Try.prog.godebug = none := by kernel_rfl
theorem laidOut : laidOutB Try.prog = true := by kernel_rfl

def okN (n : Int) : Prop := -9223372036854775808 ≤ n ∧ n ≤ 9223372036854775807
structure okV (v : V) : Prop where
  k : okN v.k
  n : okN v.n
  s : v.s.length ≤ maxLen
structure okC (c : C) : Prop where
  name : c.name.length ≤ maxLen
  op : okN c.op
  v : okV c.v
  set : ∀ x ∈ c.set, okV x
structure okA (a : List UInt8 × V) : Prop where
  name : a.1.length ≤ maxLen
  v : okV a.2

theorem list_of {α : Type} {p : Nat → α → Prop} : ∀ n, (∀ i, i < n → ∃ x, p i x) → ∃ l : List α, l.length = n ∧ ∀ i (h : i < l.length), p i l[i]
  | 0, _ => ⟨[], rfl, fun i h => absurd h (Nat.not_lt_zero _)⟩
  | n + 1, h => by
    obtain ⟨l, hl, hp⟩ := list_of n fun i hi => h i (Nat.lt_succ_of_lt hi)
    obtain ⟨x, hx⟩ := h n (Nat.lt_succ_self n)
    refine ⟨l ++ [x], by simp [hl], fun i hi => ?_⟩
    rw [List.length_append, List.length_singleton] at hi
    by_cases h' : i < l.length
    · rw [List.getElem_append_left h']; exact hp i h'
    · have e : i = l.length := by omega
      subst e
      rw [List.getElem_append_right (Nat.le_refl _)]
      simp only [Nat.sub_self, List.getElem_cons_zero, hl]
      exact hx

theorem row_of_cells {α : Type} {W : World} {a : Addr} {len cap base : Nat} (f : α → List Value) (sz : Nat) (hf : ∀ x, (f x).length = sz) (hsz : 0 < sz) (hl : len ≤ cap) (hm : cap ≤ maxLen) (l : List α) (hln : l.length = cap)
    (hc : ∀ i (h : i < l.length), W.cells? base (a.add (i * sz)) sz = some (f l[i])) : Row W sz (.slice (some a) len cap) len ((l.take len).flatMap f) := by
  have hat : ∀ i (h : i < l.length) j, j < sz → W.cell? (a.add (i * sz + j)) = (f l[i])[j]? := fun i h j hj => by
    obtain ⟨_, _, h3⟩ := World.cells?_some (hc i h)
    rw [← h3 j hj, Go.Deep.add_add]
  have hspot : 0 < cap → a.spot = none := fun h => by
    have h1 := hat 0 (by omega) 0 hsz
    rw [List.getElem?_eq_getElem (by rw [hf]; exact hsz)] at h1
    simpa [Addr.add] using World.cell?_spot h1
  refine ⟨by rw [flat_len f sz hf, List.length_take]; rw [Nat.min_eq_left (by omega)], some a, cap, rfl, hl, hm, by simp, fun p hp h0 => by simp at hp; subst hp; exact hspot h0, fun j u hj => ⟨a, rfl, ?_⟩⟩
  have hjl : j < ((l.take len).flatMap f).length := by
    rcases Nat.lt_or_ge j ((l.take len).flatMap f).length with h | h
    · exact h
    · rw [List.getElem?_eq_none h] at hj; cases hj
  rw [flat_len f sz hf, List.length_take, Nat.min_eq_left (by omega)] at hjl
  have hd : j / sz < len := by rw [Nat.div_lt_iff_lt_mul hsz]; exact hjl
  have hmod : j % sz < sz := Nat.mod_lt _ hsz
  have e : j / sz * sz + j % sz = j := by rw [Nat.mul_comm]; exact Nat.div_add_mod j sz
  have hg := flat_get f sz hf (l.take len) (j / sz) (by rw [List.length_take]; omega) (j % sz) hmod
  rw [e, hj] at hg
  have h1 := hat (j / sz) (by omega) (j % sz) hmod
  rw [e] at h1
  rw [List.getElem_take] at hg
  rw [← hg] at h1
  have hps := hspot (Nat.lt_of_lt_of_le (Nat.lt_of_le_of_lt (Nat.zero_le _) hd) hl)
  have hadd : a.add j = ⟨a.block, a.off + j, none⟩ := by
    obtain ⟨xb, xo, xs⟩ := a
    simp only at hps; subst hps
    unfold Addr.add; split <;> simp_all
  rw [← hadd]; exact h1

section
variable {H : Type} {enc : TypeId × Value → H} {W : World} {base : Nat} {held : Bool}

theorem strOf_of (s : ByteArray) : strOf s.data.toList = s := by cases s; rfl
theorem str_len (s : ByteArray) : s.data.toList.length = s.size := by cases s; exact Array.length_toList
theorem i64_ok {n : Int} (h : (Lit.int .i64 n).wf = true) : okN n := by
  have := bounds_i64 h
  unfold okN; omega

set_option maxRecDepth 100000 in
theorem open_vals {fuel : Nat} {cs : List Value} {x : DataW H × List MemPlace} (h : DataW.trod enc Try.prog W base (fun _ => true) held fuel 28 cs = some x) : ∃ v : V, cs = vC v ∧ okV v := by
  obtain ⟨xs, n, _, _, hl, hx, hf⟩ := DataW.trod_struct Try.underlying28 h
  have hC : Try.prog.cellsOf 28 = 4 := by kernel_rfl
  rw [hC] at hl
  match cs, hl with
  | [c0, c1, c2, c3], _ =>
    match xs, hx with
    | [y0, y1, y2, y3], _ =>
      have q3 : Try.prog.cellsOf 3 = 1 := by kernel_rfl
      have q2 : Try.prog.cellsOf 2 = 1 := by kernel_rfl
      have q9 : Try.prog.cellsOf 9 = 1 := by kernel_rfl
      have q4 : Try.prog.cellsOf 4 = 1 := by kernel_rfl
      have h0 := hf 0 _ rfl
      have h1 := hf 1 _ rfl
      have h2 := hf 2 _ rfl
      have h3 := hf 3 _ rfl
      simp only [q3, q2, q9, q4, List.getElem_toArray, List.getElem_cons_zero, List.getElem_cons_succ, List.getElem?_cons_zero, List.getElem?_cons_succ, List.drop_zero, List.drop_succ_cons, List.take_succ_cons, List.take_zero] at h0 h1 h2 h3
      obtain ⟨k, e0, _, w0⟩ := DataW.trod_int Try.underlying3 h0
      obtain ⟨n, e1, _, w1⟩ := DataW.trod_int Try.underlying2 h1
      obtain ⟨s, e2, _, w2⟩ := DataW.trod_string Try.underlying9 h2
      obtain ⟨b, e3, _⟩ := DataW.trod_bool Try.underlying4 h3
      simp only [List.cons.injEq, and_true] at e0 e1 e2 e3
      subst e0; subst e1; subst e2; subst e3
      refine ⟨⟨k, n, s.data.toList, b⟩, ?_, i64_ok w0, i64_ok w1, by rw [str_len]; exact w2⟩
      unfold vC; rw [strOf_of]

set_option maxRecDepth 100000 in
theorem open_set {fuel : Nat} {h : Value} {x : DataW H × List MemPlace} (ht : DataW.trod enc Try.prog W base (fun _ => true) held fuel 29 [h] = some x) : ∃ l : List V, SetR W h l ∧ ∀ v ∈ l, okV v := by
  rcases open_slice Try.underlying29 ht with ⟨e, _⟩ | ⟨a, len, cap, m, n, D, Pl, e, _, hl, hm, hmm, _, hi⟩
  · simp only [List.cons.injEq, and_true] at e
    subst e
    exact ⟨[], SetR.nil W, fun _ h => by cases h⟩
  · simp only [List.cons.injEq, and_true] at e
    subst e
    simp only [if_true] at hmm
    subst hmm
    have hC : Try.prog.cellsOf 28 = 4 := by kernel_rfl
    rw [hC] at hi
    obtain ⟨l, hln, hp⟩ := list_of (p := fun i (v : V) => W.cells? base (a.add (i * 4)) 4 = some (vC v) ∧ okV v) m fun i hi' => by
      obtain ⟨cs, h1, h2⟩ := hi i hi'
      obtain ⟨v, rfl, hv⟩ := open_vals h2
      exact ⟨v, h1, hv⟩
    have hr := row_of_cells vC 4 vC_len (by decide) hl hm l hln fun i hi => (hp i hi).1
    refine ⟨l.take len, ?_, fun v hv => ?_⟩
    · unfold SetR
      have e : (l.take len).length = len := by rw [List.length_take]; omega
      rw [e]; exact hr
    · obtain ⟨i, hi, rfl⟩ := List.getElem_of_mem (List.mem_of_mem_take hv)
      exact (hp i hi).2

set_option maxRecDepth 100000 in
theorem open_cons {fuel : Nat} {cs : List Value} {x : DataW H × List MemPlace} (h : DataW.trod enc Try.prog W base (fun _ => true) held fuel 31 cs = some x) : ∃ c : CS, cs = csC c ∧ SetR W c.h c.c.set ∧ okC c.c := by
  obtain ⟨xs, n, _, _, hl, hx, hf⟩ := DataW.trod_struct Try.underlying31 h
  have hC : Try.prog.cellsOf 31 = 7 := by kernel_rfl
  rw [hC] at hl
  match cs, hl with
  | [c0, c1, c2, c3, c4, c5, c6], _ =>
    match xs, hx with
    | [y0, y1, y2, y3], _ =>
      have q3 : Try.prog.cellsOf 3 = 1 := by kernel_rfl
      have q9 : Try.prog.cellsOf 9 = 1 := by kernel_rfl
      have q28 : Try.prog.cellsOf 28 = 4 := by kernel_rfl
      have q29 : Try.prog.cellsOf 29 = 1 := by kernel_rfl
      have h0 := hf 0 _ rfl
      have h1 := hf 1 _ rfl
      have h2 := hf 2 _ rfl
      have h3 := hf 3 _ rfl
      simp only [q3, q9, q28, q29, List.getElem_toArray, List.getElem_cons_zero, List.getElem_cons_succ, List.getElem?_cons_zero, List.getElem?_cons_succ, List.drop_zero, List.drop_succ_cons, List.take_succ_cons, List.take_zero] at h0 h1 h2 h3
      obtain ⟨s, e0, _, w0⟩ := DataW.trod_string Try.underlying9 h0
      obtain ⟨k, e1, _, w1⟩ := DataW.trod_int Try.underlying3 h1
      obtain ⟨v, e2, w2⟩ := open_vals h2
      obtain ⟨l, e3, w3⟩ := open_set h3
      simp only [vC, List.cons.injEq, and_true] at e0 e1 e2
      obtain ⟨rfl, rfl, rfl, rfl⟩ := e2
      subst e0; subst e1
      refine ⟨⟨⟨s.data.toList, k, v, l⟩, c6⟩, ?_, e3, ⟨by rw [str_len]; exact w0, i64_ok w1, w2, w3⟩⟩
      unfold csC; rw [strOf_of]

set_option maxRecDepth 100000 in
theorem open_pred {fuel : Nat} {h : Value} {x : DataW H × List MemPlace} (ht : DataW.trod enc Try.prog W base (fun _ => true) held fuel 23 [h] = some x) : ∃ p : List C, PredR W h p ∧ ∀ c ∈ p, okC c := by
  rcases open_slice Try.underlying23 ht with ⟨e, _⟩ | ⟨a, len, cap, m, n, D, Pl, e, _, hl, hm, hmm, _, hi⟩
  · simp only [List.cons.injEq, and_true] at e
    subst e
    exact ⟨[], PredR.nil W, fun _ h => by cases h⟩
  · simp only [List.cons.injEq, and_true] at e
    subst e
    simp only [if_true] at hmm
    subst hmm
    have hC : Try.prog.cellsOf 31 = 7 := by kernel_rfl
    rw [hC] at hi
    obtain ⟨l, hln, hp⟩ := list_of (p := fun i (c : CS) => W.cells? base (a.add (i * 7)) 7 = some (csC c) ∧ SetR W c.h c.c.set ∧ okC c.c) m fun i hi' => by
      obtain ⟨cs, h1, h2⟩ := hi i hi'
      obtain ⟨v, rfl, hv⟩ := open_cons h2
      exact ⟨v, h1, hv⟩
    have hr := row_of_cells csC 7 csC_len (by decide) hl hm l hln fun i hi => (hp i hi).1
    have e : (l.take len).length = len := by rw [List.length_take]; omega
    have hall : ∀ x ∈ l.take len, SetR W x.h x.c.set ∧ okC x.c := fun x hx => by
      obtain ⟨i, hi, rfl⟩ := List.getElem_of_mem (List.mem_of_mem_take hx)
      exact (hp i hi).2
    refine ⟨(l.take len).map CS.c, PredR.mk _ (by rw [e]; exact hr) fun x hx => (hall x hx).1, fun c hc => ?_⟩
    obtain ⟨x, hx, rfl⟩ := List.mem_map.1 hc
    exact (hall x hx).2

set_option maxRecDepth 100000 in
theorem open_attr {fuel : Nat} {cs : List Value} {x : DataW H × List MemPlace} (h : DataW.trod enc Try.prog W base (fun _ => true) held fuel 52 cs = some x) : ∃ a : List UInt8 × V, cs = aC a ∧ okA a := by
  obtain ⟨xs, n, _, _, hl, hx, hf⟩ := DataW.trod_struct Try.underlying52 h
  have hC : Try.prog.cellsOf 52 = 5 := by kernel_rfl
  rw [hC] at hl
  match cs, hl with
  | [c0, c1, c2, c3, c4], _ =>
    match xs, hx with
    | [y0, y1], _ =>
      have q9 : Try.prog.cellsOf 9 = 1 := by kernel_rfl
      have q28 : Try.prog.cellsOf 28 = 4 := by kernel_rfl
      have h0 := hf 0 _ rfl
      have h1 := hf 1 _ rfl
      simp only [q9, q28, List.getElem_toArray, List.getElem_cons_zero, List.getElem_cons_succ, List.getElem?_cons_zero, List.getElem?_cons_succ, List.drop_zero, List.drop_succ_cons, List.take_succ_cons, List.take_zero] at h0 h1
      obtain ⟨s, e0, _, w0⟩ := DataW.trod_string Try.underlying9 h0
      obtain ⟨v, e1, w1⟩ := open_vals h1
      simp only [vC, List.cons.injEq, and_true] at e0 e1
      obtain ⟨rfl, rfl, rfl, rfl⟩ := e1
      subst e0
      refine ⟨(s.data.toList, v), ?_, by rw [str_len]; exact w0, w1⟩
      unfold aC; rw [strOf_of]

set_option maxRecDepth 100000 in
theorem open_attrs {fuel : Nat} {h : Value} {x : DataW H × List MemPlace} (ht : DataW.trod enc Try.prog W base (fun _ => true) held fuel 24 [h] = some x) : ∃ l : List (List UInt8 × V), AttrR W h l ∧ ∀ a ∈ l, okA a := by
  rcases open_slice Try.underlying24 ht with ⟨e, _⟩ | ⟨a, len, cap, m, n, D, Pl, e, _, hl, hm, hmm, _, hi⟩
  · simp only [List.cons.injEq, and_true] at e
    subst e
    exact ⟨[], AttrR.nil W, fun _ h => by cases h⟩
  · simp only [List.cons.injEq, and_true] at e
    subst e
    simp only [if_true] at hmm
    subst hmm
    have hC : Try.prog.cellsOf 52 = 5 := by kernel_rfl
    rw [hC] at hi
    obtain ⟨l, hln, hp⟩ := list_of (p := fun i (v : List UInt8 × V) => W.cells? base (a.add (i * 5)) 5 = some (aC v) ∧ okA v) m fun i hi' => by
      obtain ⟨cs, h1, h2⟩ := hi i hi'
      obtain ⟨v, rfl, hv⟩ := open_attr h2
      exact ⟨v, h1, hv⟩
    have hr := row_of_cells aC 5 aC_len (by decide) hl hm l hln fun i hi => (hp i hi).1
    refine ⟨l.take len, ?_, fun v hv => ?_⟩
    · unfold AttrR
      have e : (l.take len).length = len := by rw [List.length_take]; omega
      rw [e]; exact hr
    · obtain ⟨i, hi, rfl⟩ := List.getElem_of_mem (List.mem_of_mem_take hv)
      exact (hp i hi).2

set_option maxRecDepth 100000 in
theorem open_event {fuel : Nat} {cs : List Value} {x : DataW H × List MemPlace} (h : DataW.trod enc Try.prog W base (fun _ => true) held fuel 26 cs = some x) : ∃ (key : List UInt8) (va : Value) (l : List (List UInt8 × V)), cs = [.string (strOf key), va] ∧ AttrR W va l ∧ key.length ≤ maxLen ∧ ∀ a ∈ l, okA a := by
  obtain ⟨xs, n, _, _, hl, hx, hf⟩ := DataW.trod_struct Try.underlying26 h
  have hC : Try.prog.cellsOf 26 = 2 := by kernel_rfl
  rw [hC] at hl
  match cs, hl with
  | [c0, c1], _ =>
    match xs, hx with
    | [y0, y1], _ =>
      have q9 : Try.prog.cellsOf 9 = 1 := by kernel_rfl
      have q24 : Try.prog.cellsOf 24 = 1 := by kernel_rfl
      have h0 := hf 0 _ rfl
      have h1 := hf 1 _ rfl
      simp only [q9, q24, List.getElem_toArray, List.getElem_cons_zero, List.getElem_cons_succ, List.getElem?_cons_zero, List.getElem?_cons_succ, List.drop_zero, List.drop_succ_cons, List.take_succ_cons, List.take_zero] at h0 h1
      obtain ⟨s, e0, _, w0⟩ := DataW.trod_string Try.underlying9 h0
      obtain ⟨l, e1, w1⟩ := open_attrs h1
      simp only [List.cons.injEq, and_true] at e0
      subst e0
      refine ⟨s.data.toList, c1, l, ?_, e1, by rw [str_len]; exact w0, w1⟩
      rw [strOf_of]

/-! The same, of an argument. -/
set_option maxRecDepth 100000 in
theorem arg_pred {b0 : Nat} {v : Value} {d : DataW H} {p : List MemPlace} (hv : Value.okWide Try.prog W .any b0 23 v) (h : DataW.Trod enc Try.prog W base (fun _ => true) held 23 v d p) : ∃ p : List C, PredR W v p ∧ ∀ c ∈ p, okC c := by
  obtain ⟨a, len, cap, rfl⟩ := okWide_slice Try.underlying23 hv
  obtain ⟨fuel, hf⟩ := h
  exact open_pred hf
set_option maxRecDepth 100000 in
theorem arg_value {b0 : Nat} {v : Value} {d : DataW H} {p : List MemPlace} (hv : Value.okWide Try.prog W .any b0 28 v) (h : DataW.Trod enc Try.prog W base (fun _ => true) held 28 v d p) : ∃ x : V, v = .agg #[.int .i64 x.k, .int .i64 x.n, .string (strOf x.s), .bool x.b] ∧ okV x := by
  obtain ⟨cs, rfl, hsz⟩ := okWide_struct Try.underlying28 hv
  obtain ⟨fuel, hf⟩ := h
  obtain ⟨x, e, hx⟩ := open_vals hf
  refine ⟨x, ?_, hx⟩
  obtain ⟨l⟩ := cs
  simp only [Value.cells] at e
  subst e; rfl
set_option maxRecDepth 100000 in
theorem arg_event {b0 : Nat} {v : Value} {d : DataW H} {p : List MemPlace} (hv : Value.okWide Try.prog W .any b0 26 v) (h : DataW.Trod enc Try.prog W base (fun _ => true) held 26 v d p) : ∃ (key : List UInt8) (va : Value) (l : List (List UInt8 × V)), v = .agg #[.string (strOf key), va] ∧ AttrR W va l ∧ key.length ≤ maxLen ∧ ∀ a ∈ l, okA a := by
  obtain ⟨cs, rfl, hsz⟩ := okWide_struct Try.underlying26 hv
  obtain ⟨fuel, hf⟩ := h
  obtain ⟨key, va, l, e, h1, h2, h3⟩ := open_event hf
  refine ⟨key, va, l, ?_, h1, h2, h3⟩
  obtain ⟨l⟩ := cs
  simp only [Value.cells] at e
  subst e; rfl
set_option maxRecDepth 100000 in
theorem arg_name {b0 : Nat} {v : Value} {d : DataW H} {p : List MemPlace} (hv : Value.okWide Try.prog W .any b0 9 v) (h : DataW.Trod enc Try.prog W base (fun _ => true) held 9 v d p) : ∃ s : List UInt8, v = .string (strOf s) ∧ s.length ≤ maxLen := by
  obtain ⟨fuel, hf⟩ := h
  obtain ⟨s, e, _, hs⟩ := DataW.trod_string Try.underlying9 hf
  cases v with
  | agg cs => simp [Value.okWide, Cell.okWide, Cell.ok, Try.underlying9] at hv
  | string t =>
    simp only [Value.cells, List.cons.injEq, Value.string.injEq, and_true] at e
    subst e
    exact ⟨t.data.toList, by rw [strOf_of], by rw [str_len]; exact hs⟩
  | _ => simp [Value.cells] at e
end
end Go.Proofs.Ytkefppdacigbmaa
