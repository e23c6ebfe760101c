/- What the rows' proofs share: arguments opened: values, sets, predicates, attributes, events, names.
Boxes that a function makes as it begins.
strings.Compare, strings.HasPrefix at this dump, laid by the kit's lay-shelf and lay-plain.
Values compared: value.Compare, the reference's Compare; what a value may be.
Regions, plainly: cuts, spans, what is in a region, one without another; what predicates ask of names. No program is in sight.
The reference's Compare of values.
The reference's May of values (ref01.May), Bare.
The reference's MayCons, May (pneumaticref04).
An element put among others in their order, by the place where it comes to stand. (Plain.) -/
import Derived.Test.YtaklnpjpndkccaaGreatProg
import Derived.ProofKit
import Derived.OpenShut
import Derived.ChangeOld
import Derived.SizedLaws
import Derived.Deep.Slices
import Derived.Deep.Fields
import Derived.ChangeSame
import Derived.Shelf.Small.Strs
import Derived.Shelf.Strings.Prefix
import Derived.Test.YtaklnpjpndkccaaGreatRows
import Derived.WalkKit
import Derived.BigQuiet
import Derived.Deep.QuietTactic
import Derived.Deep.RegionWith
import Derived.Deep.RegionLaw
import Derived.Lib.Hide
import Derived.Deep.DeepCutAuto
import Derived.WalkSpells
import Derived.WalkLawsBesides
import GoSem.Op.String
import Derived.Sort.Walk0
import Derived.Test.YtaklnpjpndkccaaGreatPk1
namespace Go.Proofs.YtaklnpjpndkccaaGreat
open Go.RowKit Go.ChangeShapes Go.WideShapes Go.Deep

theorem own : ownKnob Tryz.prog.godebug = none := by kernel_rfl
theorem laidOut : laidOutB Tryz.prog = true := by kernel_rfl

def okN (n : Int) : Prop := -9223372036854775808 ≤ n ∧ n ≤ 9223372036854775807
structure okV (v : V) : Prop where
  k : okN v.k
  n : okN v.n
  s : v.s.length ≤ maxLen
structure okC (c : C) : Prop where
  name : c.name.length ≤ maxLen
  op : okN c.op
  v : okV c.v
  set : ∀ x ∈ c.set, okV x
structure okA (a : List UInt8 × V) : Prop where
  name : a.1.length ≤ maxLen
  v : okV a.2

theorem list_of {α : Type} {p : Nat → α → Prop} : ∀ n, (∀ i, i < n → ∃ x, p i x) → ∃ l : List α, l.length = n ∧ ∀ i (h : i < l.length), p i l[i]
  | 0, _ => ⟨[], rfl, fun i h => absurd h (Nat.not_lt_zero _)⟩
  | n + 1, h => by
    obtain ⟨l, hl, hp⟩ := list_of n fun i hi => h i (Nat.lt_succ_of_lt hi)
    obtain ⟨x, hx⟩ := h n (Nat.lt_succ_self n)
    refine ⟨l ++ [x], by simp [hl], fun i hi => ?_⟩
    rw [List.length_append, List.length_singleton] at hi
    by_cases h' : i < l.length
    · rw [List.getElem_append_left h']; exact hp i h'
    · have e : i = l.length := by omega
      subst e
      rw [List.getElem_append_right (Nat.le_refl _)]
      simp only [Nat.sub_self, List.getElem_cons_zero, hl]
      exact hx

theorem row_of_cells {α : Type} {W : World} {a : Addr} {len cap base : Nat} (f : α → List Value) (sz : Nat) (hf : ∀ x, (f x).length = sz) (hsz : 0 < sz) (hl : len ≤ cap) (hm : cap ≤ maxLen) (l : List α) (hln : l.length = cap)
    (hc : ∀ i (h : i < l.length), W.cells? base (a.add (i * sz)) sz = some (f l[i])) : Row W sz (.slice (some a) len cap) len ((l.take len).flatMap f) := by
  have hat : ∀ i (h : i < l.length) j, j < sz → W.cell? (a.add (i * sz + j)) = (f l[i])[j]? := fun i h j hj => by
    obtain ⟨_, _, h3⟩ := World.cells?_some (hc i h)
    rw [← h3 j hj, Go.Deep.add_add]
  have hspot : 0 < cap → a.spot = none := fun h => by
    have h1 := hat 0 (by omega) 0 hsz
    rw [List.getElem?_eq_getElem (by rw [hf]; exact hsz)] at h1
    simpa [Addr.add] using World.cell?_spot h1
  refine ⟨by rw [flat_len f sz hf, List.length_take]; rw [Nat.min_eq_left (by omega)], some a, cap, rfl, hl, hm, by simp, fun p hp h0 => by simp at hp; subst hp; exact hspot h0, fun j u hj => ⟨a, rfl, ?_⟩⟩
  have hjl : j < ((l.take len).flatMap f).length := by
    rcases Nat.lt_or_ge j ((l.take len).flatMap f).length with h | h
    · exact h
    · rw [List.getElem?_eq_none h] at hj; cases hj
  rw [flat_len f sz hf, List.length_take, Nat.min_eq_left (by omega)] at hjl
  have hd : j / sz < len := by rw [Nat.div_lt_iff_lt_mul hsz]; exact hjl
  have hmod : j % sz < sz := Nat.mod_lt _ hsz
  have e : j / sz * sz + j % sz = j := by rw [Nat.mul_comm]; exact Nat.div_add_mod j sz
  have hg := flat_get f sz hf (l.take len) (j / sz) (by rw [List.length_take]; omega) (j % sz) hmod
  rw [e, hj] at hg
  have h1 := hat (j / sz) (by omega) (j % sz) hmod
  rw [e] at h1
  rw [List.getElem_take] at hg
  rw [← hg] at h1
  have hps := hspot (Nat.lt_of_lt_of_le (Nat.lt_of_le_of_lt (Nat.zero_le _) hd) hl)
  have hadd : a.add j = ⟨a.block, a.off + j, none⟩ := by
    obtain ⟨xb, xo, xs⟩ := a
    simp only at hps; subst hps
    unfold Addr.add; split <;> simp_all
  rw [← hadd]; exact h1

section
variable {H : Type} {enc : TypeId × Value → H} {W : World} {base : Nat} {held : Bool}

theorem strOf_of (s : ByteArray) : strOf s.data.toList = s := by cases s; rfl
theorem str_len (s : ByteArray) : s.data.toList.length = s.size := by cases s; exact Array.length_toList
theorem i64_ok {n : Int} (h : (Lit.int .i64 n).wf = true) : okN n := by
  have := bounds_i64 h
  unfold okN; omega

set_option maxRecDepth 100000 in
theorem open_vals {fuel : Nat} {cs : List Value} {x : DataW H × List MemPlace} (h : DataW.trod enc Tryz.prog W base (fun _ => true) held fuel 80 cs = some x) : ∃ v : V, cs = vC v ∧ okV v := by
  obtain ⟨xs, n, _, _, hl, hx, hf⟩ := DataW.trod_struct Tryz.underlying80 h
  have hC : Tryz.prog.cellsOf 80 = 4 := by kernel_rfl
  rw [hC] at hl
  match cs, hl with
  | [c0, c1, c2, c3], _ =>
    match xs, hx with
    | [y0, y1, y2, y3], _ =>
      have q3 : Tryz.prog.cellsOf 3 = 1 := by kernel_rfl
      have q2 : Tryz.prog.cellsOf 2 = 1 := by kernel_rfl
      have q9 : Tryz.prog.cellsOf 9 = 1 := by kernel_rfl
      have q4 : Tryz.prog.cellsOf 4 = 1 := by kernel_rfl
      have h0 := hf 0 _ rfl
      have h1 := hf 1 _ rfl
      have h2 := hf 2 _ rfl
      have h3 := hf 3 _ rfl
      simp only [q3, q2, q9, q4, List.getElem_toArray, List.getElem_cons_zero, List.getElem_cons_succ, List.getElem?_cons_zero, List.getElem?_cons_succ, List.drop_zero, List.drop_succ_cons, List.take_succ_cons, List.take_zero] at h0 h1 h2 h3
      obtain ⟨k, e0, _, w0⟩ := DataW.trod_int Tryz.underlying3 h0
      obtain ⟨n, e1, _, w1⟩ := DataW.trod_int Tryz.underlying2 h1
      obtain ⟨s, e2, _, w2⟩ := DataW.trod_string Tryz.underlying9 h2
      obtain ⟨b, e3, _⟩ := DataW.trod_bool Tryz.underlying4 h3
      simp only [List.cons.injEq, and_true] at e0 e1 e2 e3
      subst e0; subst e1; subst e2; subst e3
      refine ⟨⟨k, n, s.data.toList, b⟩, ?_, i64_ok w0, i64_ok w1, by rw [str_len]; exact w2⟩
      unfold vC; rw [strOf_of]

set_option maxRecDepth 100000 in
theorem open_set {fuel : Nat} {h : Value} {x : DataW H × List MemPlace} (ht : DataW.trod enc Tryz.prog W base (fun _ => true) held fuel 92 [h] = some x) : ∃ l : List V, SetR W h l ∧ ∀ v ∈ l, okV v := by
  rcases open_slice Tryz.underlying92 ht with ⟨e, _⟩ | ⟨a, len, cap, m, n, D, Pl, e, _, hl, hm, hmm, _, hi⟩
  · simp only [List.cons.injEq, and_true] at e
    subst e
    exact ⟨[], SetR.nil W, fun _ h => by cases h⟩
  · simp only [List.cons.injEq, and_true] at e
    subst e
    simp only [if_true] at hmm
    subst hmm
    have hC : Tryz.prog.cellsOf 80 = 4 := by kernel_rfl
    rw [hC] at hi
    obtain ⟨l, hln, hp⟩ := list_of (p := fun i (v : V) => W.cells? base (a.add (i * 4)) 4 = some (vC v) ∧ okV v) m fun i hi' => by
      obtain ⟨cs, h1, h2⟩ := hi i hi'
      obtain ⟨v, rfl, hv⟩ := open_vals h2
      exact ⟨v, h1, hv⟩
    have hr := row_of_cells vC 4 vC_len (by decide) hl hm l hln fun i hi => (hp i hi).1
    refine ⟨l.take len, ?_, fun v hv => ?_⟩
    · unfold SetR
      have e : (l.take len).length = len := by rw [List.length_take]; omega
      rw [e]; exact hr
    · obtain ⟨i, hi, rfl⟩ := List.getElem_of_mem (List.mem_of_mem_take hv)
      exact (hp i hi).2

set_option maxRecDepth 100000 in
theorem open_cons {fuel : Nat} {cs : List Value} {x : DataW H × List MemPlace} (h : DataW.trod enc Tryz.prog W base (fun _ => true) held fuel 94 cs = some x) : ∃ c : CS, cs = csC c ∧ SetR W c.h c.c.set ∧ okC c.c := by
  obtain ⟨xs, n, _, _, hl, hx, hf⟩ := DataW.trod_struct Tryz.underlying94 h
  have hC : Tryz.prog.cellsOf 94 = 7 := by kernel_rfl
  rw [hC] at hl
  match cs, hl with
  | [c0, c1, c2, c3, c4, c5, c6], _ =>
    match xs, hx with
    | [y0, y1, y2, y3], _ =>
      have q3 : Tryz.prog.cellsOf 3 = 1 := by kernel_rfl
      have q9 : Tryz.prog.cellsOf 9 = 1 := by kernel_rfl
      have q28 : Tryz.prog.cellsOf 80 = 4 := by kernel_rfl
      have q29 : Tryz.prog.cellsOf 92 = 1 := by kernel_rfl
      have h0 := hf 0 _ rfl
      have h1 := hf 1 _ rfl
      have h2 := hf 2 _ rfl
      have h3 := hf 3 _ rfl
      simp only [q3, q9, q28, q29, List.getElem_toArray, List.getElem_cons_zero, List.getElem_cons_succ, List.getElem?_cons_zero, List.getElem?_cons_succ, List.drop_zero, List.drop_succ_cons, List.take_succ_cons, List.take_zero] at h0 h1 h2 h3
      obtain ⟨s, e0, _, w0⟩ := DataW.trod_string Tryz.underlying9 h0
      obtain ⟨k, e1, _, w1⟩ := DataW.trod_int Tryz.underlying3 h1
      obtain ⟨v, e2, w2⟩ := open_vals h2
      obtain ⟨l, e3, w3⟩ := open_set h3
      simp only [vC, List.cons.injEq, and_true] at e0 e1 e2
      obtain ⟨rfl, rfl, rfl, rfl⟩ := e2
      subst e0; subst e1
      refine ⟨⟨⟨s.data.toList, k, v, l⟩, c6⟩, ?_, e3, ⟨by rw [str_len]; exact w0, i64_ok w1, w2, w3⟩⟩
      unfold csC; rw [strOf_of]

set_option maxRecDepth 100000 in
theorem open_pred {fuel : Nat} {h : Value} {x : DataW H × List MemPlace} (ht : DataW.trod enc Tryz.prog W base (fun _ => true) held fuel 23 [h] = some x) : ∃ p : List C, PredR W h p ∧ ∀ c ∈ p, okC c := by
  rcases open_slice Tryz.underlying23 ht with ⟨e, _⟩ | ⟨a, len, cap, m, n, D, Pl, e, _, hl, hm, hmm, _, hi⟩
  · simp only [List.cons.injEq, and_true] at e
    subst e
    exact ⟨[], PredR.nil W, fun _ h => by cases h⟩
  · simp only [List.cons.injEq, and_true] at e
    subst e
    simp only [if_true] at hmm
    subst hmm
    have hC : Tryz.prog.cellsOf 94 = 7 := by kernel_rfl
    rw [hC] at hi
    obtain ⟨l, hln, hp⟩ := list_of (p := fun i (c : CS) => W.cells? base (a.add (i * 7)) 7 = some (csC c) ∧ SetR W c.h c.c.set ∧ okC c.c) m fun i hi' => by
      obtain ⟨cs, h1, h2⟩ := hi i hi'
      obtain ⟨v, rfl, hv⟩ := open_cons h2
      exact ⟨v, h1, hv⟩
    have hr := row_of_cells csC 7 csC_len (by decide) hl hm l hln fun i hi => (hp i hi).1
    have e : (l.take len).length = len := by rw [List.length_take]; omega
    have hall : ∀ x ∈ l.take len, SetR W x.h x.c.set ∧ okC x.c := fun x hx => by
      obtain ⟨i, hi, rfl⟩ := List.getElem_of_mem (List.mem_of_mem_take hx)
      exact (hp i hi).2
    refine ⟨(l.take len).map CS.c, PredR.mk _ (by rw [e]; exact hr) fun x hx => (hall x hx).1, fun c hc => ?_⟩
    obtain ⟨x, hx, rfl⟩ := List.mem_map.1 hc
    exact (hall x hx).2

set_option maxRecDepth 100000 in
theorem open_attr {fuel : Nat} {cs : List Value} {x : DataW H × List MemPlace} (h : DataW.trod enc Tryz.prog W base (fun _ => true) held fuel 82 cs = some x) : ∃ a : List UInt8 × V, cs = aC a ∧ okA a := by
  obtain ⟨xs, n, _, _, hl, hx, hf⟩ := DataW.trod_struct Tryz.underlying82 h
  have hC : Tryz.prog.cellsOf 82 = 5 := by kernel_rfl
  rw [hC] at hl
  match cs, hl with
  | [c0, c1, c2, c3, c4], _ =>
    match xs, hx with
    | [y0, y1], _ =>
      have q9 : Tryz.prog.cellsOf 9 = 1 := by kernel_rfl
      have q28 : Tryz.prog.cellsOf 80 = 4 := by kernel_rfl
      have h0 := hf 0 _ rfl
      have h1 := hf 1 _ rfl
      simp only [q9, q28, List.getElem_toArray, List.getElem_cons_zero, List.getElem_cons_succ, List.getElem?_cons_zero, List.getElem?_cons_succ, List.drop_zero, List.drop_succ_cons, List.take_succ_cons, List.take_zero] at h0 h1
      obtain ⟨s, e0, _, w0⟩ := DataW.trod_string Tryz.underlying9 h0
      obtain ⟨v, e1, w1⟩ := open_vals h1
      simp only [vC, List.cons.injEq, and_true] at e0 e1
      obtain ⟨rfl, rfl, rfl, rfl⟩ := e1
      subst e0
      refine ⟨(s.data.toList, v), ?_, by rw [str_len]; exact w0, w1⟩
      unfold aC; rw [strOf_of]

set_option maxRecDepth 100000 in
theorem open_attrs {fuel : Nat} {h : Value} {x : DataW H × List MemPlace} (ht : DataW.trod enc Tryz.prog W base (fun _ => true) held fuel 45 [h] = some x) : ∃ l : List (List UInt8 × V), AttrR W h l ∧ ∀ a ∈ l, okA a := by
  rcases open_slice Tryz.underlying45 ht with ⟨e, _⟩ | ⟨a, len, cap, m, n, D, Pl, e, _, hl, hm, hmm, _, hi⟩
  · simp only [List.cons.injEq, and_true] at e
    subst e
    exact ⟨[], AttrR.nil W, fun _ h => by cases h⟩
  · simp only [List.cons.injEq, and_true] at e
    subst e
    simp only [if_true] at hmm
    subst hmm
    have hC : Tryz.prog.cellsOf 82 = 5 := by kernel_rfl
    rw [hC] at hi
    obtain ⟨l, hln, hp⟩ := list_of (p := fun i (v : List UInt8 × V) => W.cells? base (a.add (i * 5)) 5 = some (aC v) ∧ okA v) m fun i hi' => by
      obtain ⟨cs, h1, h2⟩ := hi i hi'
      obtain ⟨v, rfl, hv⟩ := open_attr h2
      exact ⟨v, h1, hv⟩
    have hr := row_of_cells aC 5 aC_len (by decide) hl hm l hln fun i hi => (hp i hi).1
    refine ⟨l.take len, ?_, fun v hv => ?_⟩
    · unfold AttrR
      have e : (l.take len).length = len := by rw [List.length_take]; omega
      rw [e]; exact hr
    · obtain ⟨i, hi, rfl⟩ := List.getElem_of_mem (List.mem_of_mem_take hv)
      exact (hp i hi).2

set_option maxRecDepth 100000 in
theorem open_event {fuel : Nat} {cs : List Value} {x : DataW H × List MemPlace} (h : DataW.trod enc Tryz.prog W base (fun _ => true) held fuel 47 cs = some x) : ∃ (key : List UInt8) (va : Value) (l : List (List UInt8 × V)), cs = [.string (strOf key), va] ∧ AttrR W va l ∧ key.length ≤ maxLen ∧ ∀ a ∈ l, okA a := by
  obtain ⟨xs, n, _, _, hl, hx, hf⟩ := DataW.trod_struct Tryz.underlying47 h
  have hC : Tryz.prog.cellsOf 47 = 2 := by kernel_rfl
  rw [hC] at hl
  match cs, hl with
  | [c0, c1], _ =>
    match xs, hx with
    | [y0, y1], _ =>
      have q9 : Tryz.prog.cellsOf 9 = 1 := by kernel_rfl
      have q24 : Tryz.prog.cellsOf 45 = 1 := by kernel_rfl
      have h0 := hf 0 _ rfl
      have h1 := hf 1 _ rfl
      simp only [q9, q24, List.getElem_toArray, List.getElem_cons_zero, List.getElem_cons_succ, List.getElem?_cons_zero, List.getElem?_cons_succ, List.drop_zero, List.drop_succ_cons, List.take_succ_cons, List.take_zero] at h0 h1
      obtain ⟨s, e0, _, w0⟩ := DataW.trod_string Tryz.underlying9 h0
      obtain ⟨l, e1, w1⟩ := open_attrs h1
      simp only [List.cons.injEq, and_true] at e0
      subst e0
      refine ⟨s.data.toList, c1, l, ?_, e1, by rw [str_len]; exact w0, w1⟩
      rw [strOf_of]

/-! The same, of an argument. -/
set_option maxRecDepth 100000 in
theorem arg_pred {b0 : Nat} {v : Value} {d : DataW H} {p : List MemPlace} (hv : Value.okWide Tryz.prog W .any b0 23 v) (h : DataW.Trod enc Tryz.prog W base (fun _ => true) held 23 v d p) : ∃ p : List C, PredR W v p ∧ ∀ c ∈ p, okC c := by
  obtain ⟨a, len, cap, rfl⟩ := okWide_slice Tryz.underlying23 hv
  obtain ⟨fuel, hf⟩ := h
  exact open_pred hf
set_option maxRecDepth 100000 in
theorem arg_value {b0 : Nat} {v : Value} {d : DataW H} {p : List MemPlace} (hv : Value.okWide Tryz.prog W .any b0 80 v) (h : DataW.Trod enc Tryz.prog W base (fun _ => true) held 80 v d p) : ∃ x : V, v = .agg #[.int .i64 x.k, .int .i64 x.n, .string (strOf x.s), .bool x.b] ∧ okV x := by
  obtain ⟨cs, rfl, hsz⟩ := okWide_struct Tryz.underlying80 hv
  obtain ⟨fuel, hf⟩ := h
  obtain ⟨x, e, hx⟩ := open_vals hf
  refine ⟨x, ?_, hx⟩
  obtain ⟨l⟩ := cs
  simp only [Value.cells] at e
  subst e; rfl
set_option maxRecDepth 100000 in
theorem arg_event {b0 : Nat} {v : Value} {d : DataW H} {p : List MemPlace} (hv : Value.okWide Tryz.prog W .any b0 47 v) (h : DataW.Trod enc Tryz.prog W base (fun _ => true) held 47 v d p) : ∃ (key : List UInt8) (va : Value) (l : List (List UInt8 × V)), v = .agg #[.string (strOf key), va] ∧ AttrR W va l ∧ key.length ≤ maxLen ∧ ∀ a ∈ l, okA a := by
  obtain ⟨cs, rfl, hsz⟩ := okWide_struct Tryz.underlying47 hv
  obtain ⟨fuel, hf⟩ := h
  obtain ⟨key, va, l, e, h1, h2, h3⟩ := open_event hf
  refine ⟨key, va, l, ?_, h1, h2, h3⟩
  obtain ⟨l⟩ := cs
  simp only [Value.cells] at e
  subst e; rfl
set_option maxRecDepth 100000 in
theorem arg_name {b0 : Nat} {v : Value} {d : DataW H} {p : List MemPlace} (hv : Value.okWide Tryz.prog W .any b0 9 v) (h : DataW.Trod enc Tryz.prog W base (fun _ => true) held 9 v d p) : ∃ s : List UInt8, v = .string (strOf s) ∧ s.length ≤ maxLen := by
  obtain ⟨fuel, hf⟩ := h
  obtain ⟨s, e, _, hs⟩ := DataW.trod_string Tryz.underlying9 hf
  cases v with
  | agg cs => simp [Value.okWide, Cell.okWide, Cell.ok, Tryz.underlying9] at hv
  | string t =>
    simp only [Value.cells, List.cons.injEq, Value.string.injEq, and_true] at e
    subst e
    exact ⟨t.data.toList, by rw [strOf_of], by rw [str_len]; exact hs⟩
  | _ => simp [Value.cells] at e
end
end Go.Proofs.YtaklnpjpndkccaaGreat

namespace Go.Proofs.YtaklnpjpndkccaaGreat
open Go.RowKit

theorem block_later {w w' : World} {b : Nat} {o : Obj} (h : w.heap[b]? = some o) (hx : Ext w w') : w'.heap[b]? = some o :=
  (hx.block b (Array.getElem?_eq_some_iff.1 h).1).trans h
theorem boxes1 (w : World) (a : Obj) : Ext w (w.alloc a) ∧ (w.alloc a).heap[w.heap.size]? = some a :=
  ⟨(Ext.refl w).alloc _, heap_alloc_new w a⟩
theorem boxes2 (w : World) (a b : Obj) : Ext w ((w.alloc a).alloc b) ∧ ((w.alloc a).alloc b).heap[w.heap.size]? = some a ∧ ((w.alloc a).alloc b).heap[w.heap.size + 1]? = some b := by
  refine ⟨((Ext.refl w).alloc _).alloc _, block_later (heap_alloc_new w a) ((Ext.refl _).alloc _), ?_⟩
  have h := heap_alloc_new (w.alloc a) b
  rw [World.size_alloc] at h; exact h
theorem boxes3 (w : World) (a b c : Obj) : Ext w (((w.alloc a).alloc b).alloc c) ∧ (((w.alloc a).alloc b).alloc c).heap[w.heap.size]? = some a ∧ (((w.alloc a).alloc b).alloc c).heap[w.heap.size + 1]? = some b ∧ (((w.alloc a).alloc b).alloc c).heap[w.heap.size + 1 + 1]? = some c := by
  obtain ⟨h1, h2, h3⟩ := boxes2 w a b
  have hx : Ext ((w.alloc a).alloc b) (((w.alloc a).alloc b).alloc c) := (Ext.refl _).alloc _
  refine ⟨h1.trans hx, block_later h2 hx, block_later h3 hx, ?_⟩
  have h := heap_alloc_new ((w.alloc a).alloc b) c
  rw [World.size_alloc, World.size_alloc] at h; exact h
theorem boxes4 (w : World) (a b c d : Obj) : Ext w ((((w.alloc a).alloc b).alloc c).alloc d) ∧ ((((w.alloc a).alloc b).alloc c).alloc d).heap[w.heap.size]? = some a ∧ ((((w.alloc a).alloc b).alloc c).alloc d).heap[w.heap.size + 1]? = some b ∧ ((((w.alloc a).alloc b).alloc c).alloc d).heap[w.heap.size + 1 + 1]? = some c ∧ ((((w.alloc a).alloc b).alloc c).alloc d).heap[w.heap.size + 1 + 1 + 1]? = some d := by
  obtain ⟨h1, h2, h3, h4⟩ := boxes3 w a b c
  have hx : Ext (((w.alloc a).alloc b).alloc c) ((((w.alloc a).alloc b).alloc c).alloc d) := (Ext.refl _).alloc _
  refine ⟨h1.trans hx, block_later h2 hx, block_later h3 hx, block_later h4 hx, ?_⟩
  have h := heap_alloc_new (((w.alloc a).alloc b).alloc c) d
  rw [World.size_alloc, World.size_alloc, World.size_alloc] at h; exact h
end Go.Proofs.YtaklnpjpndkccaaGreat

namespace Go.Proofs
open Go.Shelf
def Tryz.lays106_ren : Go.Shelf.Ren := ⟨fun | 106 => 84 | 213 => 127 | 265 => 146 | n => n, fun | 9 => 9 | 3 => 3 | n => n, fun | n => n⟩
theorem Tryz.lays106 : Go.Proofs.Lays.n106 Tryz.prog Tryz.lays106_ren := {
  mixed := by kernel_rfl
  f106 := Tryz.func84.trans (congrArg some (by kernel_rfl))
  f213 := Tryz.func127.trans (congrArg some (by kernel_rfl))
  f265 := Tryz.func146.trans (congrArg some (by kernel_rfl))
  t3 := Tryz.underlying3
  a3 := Tryz.isAgg3
  z3 := Tryz.sizeOf3
  v3 := Tryz.zeroValue3
  t9 := Tryz.underlying9
  a9 := Tryz.isAgg9
  z9 := Tryz.sizeOf9
  v9 := Tryz.zeroValue9 }
open Go.RowKit in
/-- strings.Compare: "Compare returns an integer comparing two strings lexicographically. The result will be 0 if a == b, -1 if a < b, and +1 if a > b.": IT RETURNS 'Lib.compareBytes a b'; the world is as it was. (LAID: no walk: one application.) -/
theorem Tryz.strings_Compare (a b : ByteArray) (w : World) :
    Calls Tryz.prog 84 #[.string a, .string b] w fun e w' => e = .returned (.int .i64 (Lib.compareBytes a.data.toList b.data.toList)) ∧ w' = w := Any.strings_Compare Tryz.lays106 a b w
def Tryz.lays99_ren : Go.Shelf.Ren := ⟨fun | 99 => 101 | 206 => 132 | n => n, fun | 9 => 9 | 4 => 4 | 3 => 3 | n => n, fun | n => n⟩
theorem Tryz.lays99 : Go.Proofs.Lays.n99 Tryz.prog Tryz.lays99_ren := {
  mixed := by kernel_rfl
  f99 := Tryz.func101.trans (congrArg some (by kernel_rfl))
  f206 := Tryz.func132.trans (congrArg some (by kernel_rfl))
  t3 := Tryz.underlying3
  a3 := Tryz.isAgg3
  z3 := Tryz.sizeOf3
  v3 := Tryz.zeroValue3
  t4 := Tryz.underlying4
  a4 := Tryz.isAgg4
  z4 := Tryz.sizeOf4
  v4 := Tryz.zeroValue4
  t9 := Tryz.underlying9
  a9 := Tryz.isAgg9
  z9 := Tryz.sizeOf9
  v9 := Tryz.zeroValue9 }
open Go.RowKit Go.Lib in
/-- strings.HasPrefix: "HasPrefix reports whether the string s begins with prefix.": IT RETURNS 'Lib.hasPrefix s prefix'; the world is as it was. (LAID: no walk: one application.) -/
theorem Tryz.strings_HasPrefix (s p : ByteArray) (w : World) :
    Calls Tryz.prog 101 #[.string s, .string p] w fun e w' => e = .returned (.bool (Lib.hasPrefix s.data.toList p.data.toList)) ∧ w' = w := Any.strings_HasPrefix Tryz.lays99 s p w
end Go.Proofs

namespace Go.Proofs.YtaklnpjpndkccaaGreat
open Go.RowKit

theorem cmpint_any (a b : Int) (w : World) : Calls Tryz.prog 81 #[.int .i64 a, .int .i64 b] w fun e w' => e = .returned (.int .i64 (Lib.compareInt a b)) ∧ w = w' := by
  rcases Int.lt_trichotomy a b with h | h | h
  · have e : Lib.compareInt a b = -1 := by unfold Lib.compareInt; rw [if_pos h]
    rw [e]
    have hd : decide (a < b) = true := decide_eq_true h
    clear e
    go_enter Tryz.func81, Tryz.ntmps81
    go_wp2
    go_ret
    exact ⟨rfl, rfl⟩
  · subst h
    have e : Lib.compareInt a a = 0 := wo_int.refl a
    rw [e]
    clear e
    go_enter Tryz.func81, Tryz.ntmps81
    go_wp2
    go_ret
    exact ⟨rfl, rfl⟩
  · have e : Lib.compareInt a b = 1 := by unfold Lib.compareInt; rw [if_neg (by omega), if_pos h]
    rw [e]
    have hd : decide (a < b) = false := decide_eq_false (by omega)
    have hd2 : decide (b < a) = true := decide_eq_true h
    clear e
    go_enter Tryz.func81, Tryz.ntmps81
    go_wp2
    go_ret
    exact ⟨rfl, rfl⟩
theorem cmpint64_any (a b : Int) (w : World) : Calls Tryz.prog 83 #[.int .i64 a, .int .i64 b] w fun e w' => e = .returned (.int .i64 (Lib.compareInt a b)) ∧ w = w' := by
  rcases Int.lt_trichotomy a b with h | h | h
  · have e : Lib.compareInt a b = -1 := by unfold Lib.compareInt; rw [if_pos h]
    rw [e]
    have hd : decide (a < b) = true := decide_eq_true h
    clear e
    go_enter Tryz.func83, Tryz.ntmps83
    go_wp2
    go_ret
    exact ⟨rfl, rfl⟩
  · subst h
    have e : Lib.compareInt a a = 0 := wo_int.refl a
    rw [e]
    clear e
    go_enter Tryz.func83, Tryz.ntmps83
    go_wp2
    go_ret
    exact ⟨rfl, rfl⟩
  · have e : Lib.compareInt a b = 1 := by unfold Lib.compareInt; rw [if_neg (by omega), if_pos h]
    rw [e]
    have hd : decide (a < b) = false := decide_eq_false (by omega)
    have hd2 : decide (b < a) = true := decide_eq_true h
    clear e
    go_enter Tryz.func83, Tryz.ntmps83
    go_wp2
    go_ret
    exact ⟨rfl, rfl⟩
theorem cmpstr_any (a b : List UInt8) (w : World) : Calls Tryz.prog 84 #[.string (strOf a), .string (strOf b)] w fun e w' => e = .returned (.int .i64 (Lib.compareBytes a b)) ∧ w = w' :=
  (Tryz.strings_Compare (strOf a) (strOf b) w).mono fun _ _ ⟨he, hw⟩ => ⟨he, hw.symm⟩

/-- The test of two numbers sa the walk spells it. -/
theorem beq_int_ne {a b : Int} (h : a ≠ b) : (a == b) = false := beq_eq_false_iff_ne.2 h

theorem rank_any (b : Bool) (w : World) : Calls Tryz.prog 85 #[.bool b] w fun e w' => e = .returned (.int .i64 (rankB b)) ∧ w' = w := by
  cases b
  all_goals
    go_enter Tryz.func85, Tryz.ntmps85
    go_wp2
    go_ret
    exact ⟨rfl, rfl⟩
theorem cmpint_back (a b : Int) (w : World) : Calls Tryz.prog 81 #[.int .i64 a, .int .i64 b] w fun e w' => e = .returned (.int .i64 (Lib.compareInt a b)) ∧ w' = w :=
  (cmpint_any a b w).mono fun _ _ ⟨h1, h2⟩ => ⟨h1, h2.symm⟩
theorem ta22 (v : Value) (w : World) : (Instr.typeAssert (.iface 2 v) 20 2 true).run Tryz.prog w = .ok (.tuple #[v, .bool true]) w := by kernel_rfl
theorem ta92 (v : Value) (w : World) : (Instr.typeAssert (.iface 9 v) 20 2 true).run Tryz.prog w = .ok (.tuple #[.int .i64 0, .bool false]) w := by kernel_rfl
theorem ta99 (v : Value) (w : World) : (Instr.typeAssert (.iface 9 v) 20 9 true).run Tryz.prog w = .ok (.tuple #[v, .bool true]) w := by kernel_rfl
theorem ta42 (v : Value) (w : World) : (Instr.typeAssert (.iface 4 v) 20 2 true).run Tryz.prog w = .ok (.tuple #[.int .i64 0, .bool false]) w := by kernel_rfl
theorem ta49 (v : Value) (w : World) : (Instr.typeAssert (.iface 4 v) 20 9 true).run Tryz.prog w = .ok (.tuple #[.string ⟨#[]⟩, .bool false]) w := by kernel_rfl
theorem ta44 (v : Value) (w : World) : (Instr.typeAssert (.iface 4 v) 20 4 true).run Tryz.prog w = .ok (.tuple #[v, .bool true]) w := by kernel_rfl
theorem ta02 (w : World) : (Instr.typeAssert .nilIface 20 2 true).run Tryz.prog w = .ok (.tuple #[.int .i64 0, .bool false]) w := by kernel_rfl
theorem ta09 (w : World) : (Instr.typeAssert .nilIface 20 9 true).run Tryz.prog w = .ok (.tuple #[.string ⟨#[]⟩, .bool false]) w := by kernel_rfl
theorem ta04 (w : World) : (Instr.typeAssert .nilIface 20 4 true).run Tryz.prog w = .ok (.tuple #[.bool false, .bool false]) w := by kernel_rfl

set_option maxRecDepth 100000 in
set_option maxHeartbeats 2000000 in
theorem compare_any (w : World) (ak an bk bn : Int) (sa sb : List UInt8) (ab bb : Bool) :
    Calls Tryz.prog 61 #[.agg #[.int .i64 ak, .int .i64 an, .string (strOf sa), .bool ab], .agg #[.int .i64 bk, .int .i64 bn, .string (strOf sb), .bool bb]] w
      fun e w' => e = .returned (.int .i64 (cmpV ⟨ak, an, sa, ab⟩ ⟨bk, bn, sb, bb⟩)) ∧ Grew w w' := by
  by_cases hk : ak = bk
  · subst hk
    by_cases h1 : ak = 1
    · subst h1
      have e : cmpV ⟨1, an, sa, ab⟩ ⟨1, bn, sb, bb⟩ = Lib.compareInt an bn := rfl
      rw [e]
      have t1 := ta22
      clear e
      go_enter Tryz.func61, Tryz.ntmps61
      go_wp2_with (first | (go_at_call 83; refine (cmpint64_any _ _ _).mono ?_; rintro e w' ⟨rfl, rfl⟩) | go_in)
      go_ret
      exact ⟨rfl, (((Grew.refl w).alloc _).alloc _).alloc _⟩
    · have d1 := beq_int_ne h1
      by_cases h2 : ak = 2
      · subst h2
        have e : cmpV ⟨2, an, sa, ab⟩ ⟨2, bn, sb, bb⟩ = Lib.compareBytes sa sb := rfl
        rw [e]
        have t1 := ta92
        have t2 := ta99
        clear e d1 h1
        go_enter Tryz.func61, Tryz.ntmps61
        go_wp2_with (first | (go_at_call 84; refine (cmpstr_any _ _ _).mono ?_; rintro e w' ⟨rfl, rfl⟩) | go_in)
        go_ret
        exact ⟨rfl, (((Grew.refl w).alloc _).alloc _).alloc _⟩
      · have d2 := beq_int_ne h2
        by_cases h3 : ak = 3
        · subst h3
          have e : cmpV ⟨3, an, sa, ab⟩ ⟨3, bn, sb, bb⟩ = cmpB ab bb := rfl
          rw [e]
          have t1 := ta42
          have t2 := ta49
          have t3 := ta44
          clear e d1 h1 d2 h2
          cases ab <;> cases bb
          all_goals
            go_enter Tryz.func61, Tryz.ntmps61
            go_upto_region 12 with go_in
            go_quiet (first | (go_at_call 85; exact Calls.quiet_of_same (rank_any _ _)) | (go_at_call 81; exact Calls.quiet_of_same (cmpint_back _ _ _)))
            go_wp2
            go_ret
            exact ⟨rfl, ((((Grew.refl w).alloc _).alloc _).alloc _).drewN _⟩
        · have d3 := beq_int_ne h3
          have e : cmpV ⟨ak, an, sa, ab⟩ ⟨ak, bn, sb, bb⟩ = 0 := by unfold cmpV; rw [if_pos rfl, if_neg h1, if_neg h2, if_neg h3]
          rw [e]
          have t1 := ta02
          have t2 := ta09
          have t3 := ta04
          clear e h1 h2 h3
          go_enter Tryz.func61, Tryz.ntmps61
          go_wp2_with go_in
          go_ret
          exact ⟨rfl, (((Grew.refl w).alloc _).alloc _).alloc _⟩
  · have e : cmpV ⟨ak, an, sa, ab⟩ ⟨bk, bn, sb, bb⟩ = Lib.compareInt ak bk := by unfold cmpV; rw [if_neg hk]
    rw [e]
    have d1 := beq_int_ne hk
    clear e hk
    go_enter Tryz.func61, Tryz.ntmps61
    go_wp2_with (first | (go_at_call 81; refine (cmpint_any _ _ _).mono ?_; rintro e w' ⟨rfl, rfl⟩) | go_in)
    go_ret
    exact ⟨rfl, ((Grew.refl w).alloc _).alloc _⟩

end Go.Proofs.YtaklnpjpndkccaaGreat

namespace Go.Proofs.YtaklnpjpndkccaaGreat

/-- A place between values. -/
structure Cut where
  a : List UInt8
  e : Bool
deriving DecidableEq
def Cut.lt (x y : Cut) : Bool := !x.e && (y.e || Op.bytesLess x.a y.a)
structure Sp where
  lo : Cut
  hi : Cut
deriving DecidableEq
structure Rg where
  i : List Sp
  s : List Sp
  b : List Sp
  odd : Bool
deriving DecidableEq

def eightN : Nat → Nat → List UInt8
  | 0, _ => []
  | k + 1, n => eightN k (n / 256) ++ [UInt8.ofNat (n % 256)]
def eightF (n : Nat) : List UInt8 := eightN 8 n
theorem eightN_len : ∀ k n, (eightN k n).length = k
  | 0, _ => rfl
  | k + 1, n => by simp [eightN, eightN_len k]
/-- Bytes as a number, the highest first. -/
def wholeF (l : List UInt8) : Nat := l.foldl (fun n c => n * 256 + c.toNat) 0
theorem wholeF_snoc (l : List UInt8) (c : UInt8) : wholeF (l ++ [c]) = wholeF l * 256 + c.toNat := by simp [wholeF]
theorem wholeF_eight : ∀ (k n : Nat), n < 256 ^ k → wholeF (eightN k n) = n
  | 0, n, h => by simp at h; subst h; rfl
  | k + 1, n, h => by
    rw [eightN, wholeF_snoc, wholeF_eight k (n / 256) (by rw [Nat.pow_succ] at h; omega)]
    have : (UInt8.ofNat (n % 256)).toNat = n % 256 := by
      rw [UInt8.toNat_ofNat']; omega
    omega
theorem eight_wholeF : ∀ (k : Nat) (l : List UInt8), l.length = k → eightN k (wholeF l) = l
  | 0, l, h => by rw [List.length_eq_zero_iff.1 h]; rfl
  | k + 1, l, h => by
    have hne : l ≠ [] := by intro e; rw [e] at h; simp at h
    obtain ⟨p, c, rfl⟩ : ∃ p c, l = p ++ [c] := ⟨l.dropLast, l.getLast hne, (List.dropLast_concat_getLast hne).symm⟩
    have hp : p.length = k := by simpa using h
    have hc : c.toNat < 256 := c.toNat_lt
    rw [wholeF_snoc, eightN]
    have e1 : (wholeF p * 256 + c.toNat) / 256 = wholeF p := by omega
    have e2 : (wholeF p * 256 + c.toNat) % 256 = c.toNat := by omega
    rw [e1, e2, eight_wholeF k p hp]
    congr 2
    exact UInt8.toNat_inj.1 (by rw [UInt8.toNat_ofNat']; omega)
theorem wholeF_lt : ∀ (k : Nat) (l : List UInt8), l.length = k → wholeF l < 256 ^ k
  | 0, l, h => by rw [List.length_eq_zero_iff.1 h]; decide
  | k + 1, l, h => by
    have hne : l ≠ [] := by intro e; rw [e] at h; simp at h
    obtain ⟨p, c, rfl⟩ : ∃ p c, l = p ++ [c] := ⟨l.dropLast, l.getLast hne, (List.dropLast_concat_getLast hne).symm⟩
    have hp : p.length = k := by simpa using h
    have hc : c.toNat < 256 := c.toNat_lt
    have := wholeF_lt k p hp
    rw [wholeF_snoc, Nat.pow_succ]; omega

def numC (n : Int) : Cut := ⟨eightF (n + 9223372036854775808).toNat, false⟩
def endC : Cut := ⟨[], true⟩
def firstC (k : Int) : Cut := if k = 1 then numC (-9223372036854775808) else ⟨[], false⟩
def aroundV (v : V) : Cut × Cut :=
  if v.k = 1 then (if v.n = 9223372036854775807 then (numC v.n, endC) else (numC v.n, numC (v.n + 1)))
  else if v.k = 2 then (⟨v.s, false⟩, ⟨v.s ++ [0], false⟩)
  else if v.b then (⟨[0], false⟩, endC) else (⟨[], false⟩, ⟨[0], false⟩)
def atV (v : V) : Cut := (aroundV v).1
def pastR : List UInt8 → Cut
  | [] => endC
  | c :: r => if c = 255 then pastR r else ⟨(r.reverse) ++ [c + 1], false⟩
def pastF (s : List UInt8) : Cut := pastR s.reverse
def fullS (l : List Sp) : List Sp := l.filter fun x => Cut.lt x.lo x.hi
def ofL (c : C) : List Sp :=
  fullS (if c.op = 2 then [⟨(aroundV c.v).1, (aroundV c.v).2⟩]
  else if c.op = 3 then [⟨firstC c.v.k, (aroundV c.v).1⟩, ⟨(aroundV c.v).2, endC⟩]
  else if c.op = 4 then [⟨firstC c.v.k, (aroundV c.v).1⟩]
  else if c.op = 5 then [⟨firstC c.v.k, (aroundV c.v).2⟩]
  else if c.op = 6 then [⟨(aroundV c.v).2, endC⟩]
  else if c.op = 7 then [⟨(aroundV c.v).1, endC⟩]
  else if c.op = 8 then [⟨(aroundV c.v).1, pastF c.v.s⟩]
  else [])
def allR : Rg := ⟨[⟨firstC 1, endC⟩], [⟨firstC 2, endC⟩], [⟨firstC 3, endC⟩], true⟩
def noneR : Rg := ⟨[], [], [], false⟩
def minus1 (s out : Sp) : List Sp :=
  if !Cut.lt out.lo s.hi || !Cut.lt s.lo out.hi then [s]
  else fullS [⟨s.lo, if Cut.lt out.lo s.hi then out.lo else s.hi⟩, ⟨if Cut.lt s.lo out.hi then out.hi else s.lo, s.hi⟩]
def minusL (l m : List Sp) : List Sp := m.foldl (fun l out => l.flatMap fun s => minus1 s out) l
def Rg.minus (r q : Rg) : Rg := ⟨minusL r.i q.i, minusL r.s q.s, minusL r.b q.b, r.odd && !q.odd⟩
def Rg.and (r q : Rg) : Rg := r.minus (r.minus q)
def Rg.empty (r : Rg) : Bool := !r.odd && !(decide (0 < r.i.length) || decide (0 < r.s.length) || decide (0 < r.b.length))
def Rg.within (r q : Rg) : Bool := (r.minus q).empty
def inS (c : Cut) (x : Sp) : Bool := !Cut.lt c x.lo && Cut.lt c x.hi
def inL (c : Cut) (l : List Sp) : Bool := l.any (inS c)
def Rg.of (r : Rg) (k : Int) : List Sp := if k = 1 then r.i else if k = 2 then r.s else r.b
def Rg.has (r : Rg) (v : V) : Bool := if v.k < 1 ∨ 3 < v.k then r.odd else inL (atV v) (r.of v.k)
def setR (k : Int) (l : List Sp) : Rg := if k = 1 then ⟨l, [], [], false⟩ else if k = 2 then ⟨[], l, [], false⟩ else ⟨[], [], l, false⟩
def oneV (v : V) : Rg := setR v.k (ofL ⟨[], 2, v, []⟩)
def ofR (c : C) : Rg :=
  if !mayC c then noneR else if c.op = 1 then allR else if c.op = 9 then allR.minus (c.set.foldl (fun r v => r.minus (oneV v)) allR) else setR c.v.k (ofL c)
def askedF (p : List C) (name : List UInt8) : Rg := if !mayP p then noneR else p.foldl (fun r c => if c.name = name then r.and (ofR c) else r) allR
def someR (r : Rg) : V × Bool :=
  match r.i with
  | x :: _ => (⟨1, (wholeF x.lo.a : Int) - 9223372036854775808, [], false⟩, true)
  | [] => match r.s with
    | x :: _ => (⟨2, 0, x.lo.a, false⟩, true)
    | [] => match r.b with
      | x :: _ => (⟨3, 0, [], !x.lo.a.isEmpty⟩, true)
      | [] => (⟨0, 0, [], false⟩, r.odd)
def namesF (p : List C) : List (List UInt8) := sortU Lib.compareBytes (p.map C.name)
def noneF (p : List C) : Bool := (namesF p).any fun n => (askedF p n).empty
def coversF (p q : List C) : Bool := mayP p && mayP q && (noneF q || !(namesF p).any fun n => !decide (n ∈ namesF q) || !(askedF q n).within (askedF p n))

/-! The order of cuts -/
theorem bl_lt (x y : List UInt8) : Op.bytesLess x y = true ↔ Lib.compareBytes x y < 0 := by
  induction x generalizing y with
  | nil => cases y <;> simp [Op.bytesLess, Lib.compareBytes]
  | cons a x ih =>
    cases y with
    | nil => simp [Op.bytesLess, Lib.compareBytes]
    | cons b y =>
      simp only [Op.bytesLess, Lib.compareBytes]
      by_cases h1 : a < b
      · simp [h1]
      · by_cases h2 : b < a
        · have hne : ¬ a = b := by intro e; rw [e] at h2; exact absurd h2 (UInt8.lt_irrefl b)
          simp [h1, h2, hne]
        · have he : a = b := UInt8.le_antisymm (UInt8.not_lt.1 h2) (UInt8.not_lt.1 h1)
          subst he
          simp [ih y]
theorem cut_irr (x : Cut) : Cut.lt x x = false := by
  unfold Cut.lt
  cases hx : x.e <;> simp
  have := bl_lt x.a x.a
  rw [wo_bytes.refl] at this
  simp at this; exact this
theorem cut_trans {x y z : Cut} (h1 : Cut.lt x y = true) (h2 : Cut.lt y z = true) : Cut.lt x z = true := by
  unfold Cut.lt at *
  simp only [Bool.and_eq_true, Bool.not_eq_true', Bool.or_eq_true] at *
  refine ⟨h1.1, ?_⟩
  rcases h2.2 with h | h
  · exact .inl h
  · rcases h1.2 with h' | h'
    · rw [h2.1] at h'; cases h'
    · exact .inr ((bl_lt _ _).2 (wo_bytes.lt_trans ((bl_lt _ _).1 h') ((bl_lt _ _).1 h)))
/-- Of 'not ahead' likewise. -/
theorem cut_ntrans {x y z : Cut} (h1 : Cut.lt x y = false) (h2 : Cut.lt y z = false) : Cut.lt x z = false := by
  cases h : Cut.lt x z with
  | false => rfl
  | true =>
    exfalso
    unfold Cut.lt at h h1 h2
    simp only [Bool.and_eq_true, Bool.not_eq_true', Bool.or_eq_true, Bool.and_eq_false_iff, Bool.or_eq_false_iff, Bool.not_eq_false'] at h h1 h2
    rcases h1 with h1 | h1
    · rw [h.1] at h1; cases h1
    · rcases h2 with h2 | h2
      · rw [h1.1] at h2; cases h2
      · rcases h.2 with h3 | h3
        · rw [h2.1] at h3; cases h3
        · have a1 := (bl_lt _ _).1 h3
          have a2 : ¬ Lib.compareBytes x.a y.a < 0 := fun e => by rw [(bl_lt _ _).2 e] at h1; simp at h1
          have a3 : ¬ Lib.compareBytes y.a z.a < 0 := fun e => by rw [(bl_lt _ _).2 e] at h2; simp at h2
          have b1 := wo_bytes.anti x.a y.a
          have b2 := wo_bytes.anti y.a z.a
          have b3 := wo_bytes.anti x.a z.a
          have := wo_bytes.trans z.a y.a x.a (by omega) (by omega)
          omega

/-! What is in spans -/
theorem inL_append (c : Cut) (l m : List Sp) : inL c (l ++ m) = (inL c l || inL c m) := by simp [inL]
theorem inL_full (c : Cut) (l : List Sp) : inL c (fullS l) = inL c l := by
  unfold inL fullS
  rw [Bool.eq_iff_iff, List.any_eq_true, List.any_eq_true]
  constructor
  · rintro ⟨x, hx, h⟩
    exact ⟨x, (List.mem_filter.1 hx).1, h⟩
  · rintro ⟨x, hx, h⟩
    refine ⟨x, List.mem_filter.2 ⟨hx, ?_⟩, h⟩
    unfold inS at h
    simp only [Bool.and_eq_true, Bool.not_eq_true'] at h
    cases hl : Cut.lt x.lo x.hi with
    | true => rfl
    | false =>
      have := cut_ntrans h.1 hl
      rw [h.2] at this; cases this
theorem in_minus1 (c : Cut) (s out : Sp) : inL c (minus1 s out) = (inS c s && !inS c out) := by
  have t1 : ∀ {x y z : Cut}, Cut.lt x y = false → Cut.lt x z = true → Cut.lt y z = true := fun {x y z} h1 h2 => by
    cases h : Cut.lt y z with
    | true => rfl
    | false => have := cut_ntrans h1 h; rw [h2] at this; cases this
  unfold minus1
  by_cases hd : (!Cut.lt out.lo s.hi || !Cut.lt s.lo out.hi) = true
  · rw [if_pos hd]
    simp only [inL, List.any_cons, List.any_nil, Bool.or_false]
    cases hs : inS c s with
    | false => rfl
    | true =>
      cases ho : inS c out with
      | false => rfl
      | true =>
        exfalso
        unfold inS at hs ho
        simp only [Bool.and_eq_true, Bool.not_eq_true', Bool.or_eq_true] at hs ho hd
        rcases hd with hd | hd
        · rw [t1 ho.1 hs.2] at hd; cases hd
        · rw [t1 hs.1 ho.2] at hd; cases hd
  · rw [if_neg hd, inL_full]
    simp only [Bool.not_eq_true, Bool.or_eq_false_iff, Bool.not_eq_false'] at hd
    rw [if_pos hd.1, if_pos hd.2]
    simp only [inL, List.any_cons, List.any_nil, Bool.or_false, inS]
    cases h1 : Cut.lt c s.lo <;> cases h2 : Cut.lt c s.hi <;> cases h3 : Cut.lt c out.lo <;> cases h4 : Cut.lt c out.hi <;> simp
    · rw [cut_trans h3 hd.1] at h2; cases h2
    · rw [cut_trans h3 hd.1] at h2; cases h2
    · rw [cut_trans h1 hd.2] at h4; cases h4
    · rw [cut_trans h1 hd.2] at h4; cases h4
theorem in_flat (c : Cut) (out : Sp) (l : List Sp) : inL c (l.flatMap fun s => minus1 s out) = (inL c l && !inS c out) := by
  induction l with
  | nil => simp [inL]
  | cons s l ih =>
    rw [List.flatMap_cons, inL_append, in_minus1, ih]
    have : inL c (s :: l) = (inS c s || inL c l) := by simp [inL]
    rw [this]
    cases inS c s <;> cases inL c l <;> cases inS c out <;> rfl
theorem in_minus (c : Cut) (l m : List Sp) : inL c (minusL l m) = (inL c l && !inL c m) := by
  unfold minusL
  induction m generalizing l with
  | nil => simp [inL]
  | cons o m ih =>
    rw [List.foldl_cons, ih, in_flat]
    have : inL c (o :: m) = (inS c o || inL c m) := by simp [inL]
    rw [this]
    cases inL c l <;> cases inL c m <;> cases inS c o <;> rfl
theorem has_minus (r q : Rg) (v : V) : (r.minus q).has v = (r.has v && !q.has v) := by
  unfold Rg.has
  split
  · rfl
  · have : (r.minus q).of v.k = minusL (r.of v.k) (q.of v.k) := by
      unfold Rg.of Rg.minus
      (repeat' split) <;> rfl
    rw [this, in_minus]
theorem has_and (r q : Rg) (v : V) : (r.and q).has v = (r.has v && q.has v) := by
  unfold Rg.and
  rw [has_minus, has_minus]
  cases r.has v <;> cases q.has v <;> rfl

/-! Regions whose cuts stand for values -/
def ok1 (c : Cut) : Prop := c.e = true ∨ c.a.length = 8
def ok3 (c : Cut) : Prop := c.e = true ∨ c.a = [] ∨ c.a = [0]
def okS (P : Cut → Prop) (l : List Sp) : Prop := ∀ x ∈ l, P x.lo ∧ P x.hi ∧ Cut.lt x.lo x.hi = true
structure Good4 (r : Rg) : Prop where
  i : okS ok1 r.i
  s : okS (fun _ => True) r.s
  b : okS ok3 r.b
theorem okS_minus1 {P : Cut → Prop} {s out : Sp} (h : P s.lo ∧ P s.hi ∧ Cut.lt s.lo s.hi = true) (ho : P out.lo ∧ P out.hi) : okS P (minus1 s out) := by
  intro x hx
  unfold minus1 at hx
  split at hx
  · rw [List.mem_singleton.1 hx]; exact h
  · have hx' := List.mem_filter.1 hx
    rcases List.mem_cons.1 hx'.1 with e | hx2
    · subst e
      refine ⟨h.1, ?_, hx'.2⟩
      show P (if _ then _ else _)
      split
      · exact ho.1
      · exact h.2.1
    · have e := List.mem_singleton.1 hx2
      subst e
      refine ⟨?_, h.2.1, hx'.2⟩
      show P (if _ then _ else _)
      split
      · exact ho.2
      · exact h.1
theorem okS_minus {P : Cut → Prop} : ∀ {m l : List Sp}, okS P l → okS P m → okS P (minusL l m)
  | [], _, h, _ => h
  | o :: m, l, h, hm => by
    have h2 : okS P (l.flatMap fun s => minus1 s o) := fun x hx => by
      obtain ⟨s, hs, hx⟩ := List.mem_flatMap.1 hx
      exact okS_minus1 (h s hs) ⟨(hm o List.mem_cons_self).1, (hm o List.mem_cons_self).2.1⟩ x hx
    exact okS_minus (m := m) h2 fun x hx => hm x (List.mem_cons_of_mem _ hx)
theorem Good4.minus {r q : Rg} (h : Good4 r) (k : Good4 q) : Good4 (r.minus q) := ⟨okS_minus h.i k.i, okS_minus h.s k.s, okS_minus h.b k.b⟩
theorem Good4.and {r q : Rg} (h : Good4 r) (k : Good4 q) : Good4 (r.and q) := h.minus (h.minus k)
theorem good_none : Good4 noneR := ⟨fun _ h => (by cases h), fun _ h => (by cases h), fun _ h => (by cases h)⟩
theorem num_ok1 (n : Int) : ok1 (numC n) := .inr (eightN_len 8 _)
theorem good_all : Good4 allR := by
  refine ⟨fun x hx => ?_, fun x hx => ?_, fun x hx => ?_⟩ <;> rw [List.mem_singleton.1 hx]
  · exact ⟨num_ok1 _, .inl rfl, rfl⟩
  · exact ⟨trivial, trivial, rfl⟩
  · exact ⟨.inr (.inl rfl), .inl rfl, rfl⟩

theorem at_num {l : List UInt8} (h : l.length = 8) : eightF ((wholeF l : Int) - 9223372036854775808 + 9223372036854775808).toNat = l := by
  have e : ((wholeF l : Int) - 9223372036854775808 + 9223372036854775808).toNat = wholeF l := by omega
  rw [e]; exact eight_wholeF 8 l h
theorem inS_lo {x : Sp} (h : Cut.lt x.lo x.hi = true) : inS x.lo x = true := by
  unfold inS; rw [cut_irr, h]; rfl
theorem lt_live {x y : Cut} (h : Cut.lt x y = true) : x.e = false := by
  unfold Cut.lt at h; simp only [Bool.and_eq_true, Bool.not_eq_true'] at h; exact h.1
/-- A region that is not empty shows a value that is in it. -/
theorem some_law {r : Rg} (h : Good4 r) : (someR r).2 = !r.empty ∧ ((someR r).2 = true → r.has (someR r).1 = true) := by
  obtain ⟨ri, rs, rb, ro⟩ := r
  unfold someR Rg.empty
  cases ri with
  | cons x ri =>
    refine ⟨by simp, fun _ => ?_⟩
    obtain ⟨h1, h2, h3⟩ := h.i x List.mem_cons_self
    have he := lt_live h3
    have hl : x.lo.a.length = 8 := by rcases h1 with h1 | h1; rw [he] at h1; cases h1; exact h1
    have hat : atV ⟨1, (wholeF x.lo.a : Int) - 9223372036854775808, [], false⟩ = x.lo := by
      have hnum : numC ((wholeF x.lo.a : Int) - 9223372036854775808) = x.lo := by
        unfold numC
        rw [at_num hl]
        cases hx : x.lo with | mk a e => rw [hx] at he; simp only at he; rw [he]
      unfold atV aroundV
      rw [if_pos rfl]
      split <;> exact hnum
    show inL _ _ = true
    rw [hat]
    show (inS x.lo x || _) = true
    rw [inS_lo h3, Bool.true_or]
  | nil =>
    cases rs with
    | cons x rs =>
      refine ⟨by simp, fun _ => ?_⟩
      obtain ⟨_, _, h3⟩ := h.s x List.mem_cons_self
      have he := lt_live h3
      have hat : atV ⟨2, 0, x.lo.a, false⟩ = x.lo := by
        show (⟨x.lo.a, false⟩ : Cut) = x.lo
        cases hx : x.lo with | mk a e => rw [hx] at he; simp only at he; rw [he]
      show inL _ _ = true
      rw [hat]
      show (inS x.lo x || _) = true
      rw [inS_lo h3, Bool.true_or]
    | nil =>
      cases rb with
      | cons x rb =>
        refine ⟨by simp, fun _ => ?_⟩
        obtain ⟨h1, _, h3⟩ := h.b x List.mem_cons_self
        have he := lt_live h3
        have hat : atV ⟨3, 0, [], !x.lo.a.isEmpty⟩ = x.lo := by
          cases hx : x.lo with
          | mk a e =>
            rw [hx] at he h1
            simp only at he
            subst he
            rcases h1 with h1 | h1 | h1
            · cases h1
            · simp only at h1; subst h1; rfl
            · simp only at h1; subst h1; rfl
        show inL _ _ = true
        rw [hat]
        show (inS x.lo x || _) = true
        rw [inS_lo h3, Bool.true_or]
      | nil =>
        refine ⟨by simp, fun ho => ?_⟩
        show ro = true
        exact ho
theorem empty_iff {r : Rg} (h : Good4 r) : r.empty = true ↔ ∀ v, r.has v = false := by
  obtain ⟨h1, h2⟩ := some_law h
  constructor
  · intro he v
    obtain ⟨ri, rs, rb, ro⟩ := r
    unfold Rg.empty at he
    simp only [Bool.and_eq_true, Bool.not_eq_true', Bool.or_eq_false_iff, decide_eq_false_iff_not] at he
    have e1 : ri = [] := List.eq_nil_of_length_eq_zero (by omega)
    have e2 : rs = [] := List.eq_nil_of_length_eq_zero (by omega)
    have e3 : rb = [] := List.eq_nil_of_length_eq_zero (by omega)
    obtain ⟨he1, _⟩ := he
    subst e1; subst e2; subst e3; subst he1
    unfold Rg.has Rg.of inL
    (repeat' split) <;> rfl
  · intro hv
    cases he : r.empty with
    | true => rfl
    | false =>
      rw [he] at h1
      have := h2 h1
      rw [hv] at this; cases this
theorem within_iff {r q : Rg} (h : Good4 r) (k : Good4 q) : r.within q = true ↔ ∀ v, r.has v = true → q.has v = true := by
  unfold Rg.within
  rw [empty_iff (h.minus k)]
  constructor
  · intro a v hv
    have := a v
    rw [has_minus, hv] at this
    simpa using this
  · intro a v
    rw [has_minus]
    cases hv : r.has v with
    | false => rfl
    | true => rw [a v hv]; rfl

/-! The regions of constraints -/
theorem okS_full {P : Cut → Prop} {l : List Sp} (h : ∀ x ∈ l, P x.lo ∧ P x.hi) : okS P (fullS l) := fun x hx => by
  obtain ⟨h1, h2⟩ := List.mem_filter.1 hx
  exact ⟨(h x h1).1, (h x h1).2, h2⟩
theorem around_ok1 {v : V} (h : v.k = 1) : ok1 (aroundV v).1 ∧ ok1 (aroundV v).2 := by
  unfold aroundV
  rw [if_pos h]
  split
  · exact ⟨num_ok1 _, .inl rfl⟩
  · exact ⟨num_ok1 _, num_ok1 _⟩
theorem around_ok3 {v : V} (h1 : v.k ≠ 1) (h2 : v.k ≠ 2) : ok3 (aroundV v).1 ∧ ok3 (aroundV v).2 := by
  unfold aroundV
  rw [if_neg h1, if_neg h2]
  split
  · exact ⟨.inr (.inr rfl), .inl rfl⟩
  · exact ⟨.inr (.inl rfl), .inr (.inr rfl)⟩
theorem ofL_ok {P : Cut → Prop} {c : C} (ha : P (aroundV c.v).1 ∧ P (aroundV c.v).2) (hf : P (firstC c.v.k)) (he : P endC) (hp : c.op = 8 → P (pastF c.v.s)) : okS P (ofL c) := by
  refine okS_full fun x hx => ?_
  split at hx
  · rw [List.mem_singleton.1 hx]; exact ha
  · split at hx
    · rcases List.mem_cons.1 hx with e | hx
      · rw [e]; exact ⟨hf, ha.1⟩
      · rw [List.mem_singleton.1 hx]; exact ⟨ha.2, he⟩
    · split at hx
      · rw [List.mem_singleton.1 hx]; exact ⟨hf, ha.1⟩
      · split at hx
        · rw [List.mem_singleton.1 hx]; exact ⟨hf, ha.2⟩
        · split at hx
          · rw [List.mem_singleton.1 hx]; exact ⟨ha.2, he⟩
          · split at hx
            · rw [List.mem_singleton.1 hx]; exact ⟨ha.1, he⟩
            · split at hx
              · rename_i h8
                rw [List.mem_singleton.1 hx]; exact ⟨ha.1, hp h8⟩
              · cases hx
theorem good_set {k : Int} {c : C} (hk : c.v.k = k) (h8 : c.op = 8 → k = 2) : Good4 (setR k (ofL c)) := by
  subst hk
  unfold setR
  split
  · rename_i h1
    exact ⟨ofL_ok (around_ok1 h1) (by rw [h1]; exact num_ok1 _) (.inl rfl) (fun e => by have := h8 e; omega), fun _ h => (by cases h), fun _ h => (by cases h)⟩
  · rename_i h1
    split
    · exact ⟨fun _ h => (by cases h), ofL_ok ⟨trivial, trivial⟩ trivial trivial (fun _ => trivial), fun _ h => (by cases h)⟩
    · rename_i h2
      refine ⟨fun _ h => (by cases h), fun _ h => (by cases h), ofL_ok (around_ok3 h1 h2) ?_ (.inl rfl) (fun e => absurd (h8 e) h2)⟩
      unfold firstC; rw [if_neg h1]; exact .inr (.inl rfl)
theorem good_one (v : V) : Good4 (oneV v) := good_set rfl (fun e => by cases e)
theorem good_fold (l : List V) (r : Rg) (h : Good4 r) : Good4 (l.foldl (fun r v => r.minus (oneV v)) r) := by
  induction l generalizing r with
  | nil => exact h
  | cons v l ih => exact ih _ (h.minus (good_one v))
theorem good_of (c : C) : Good4 (ofR c) := by
  unfold ofR
  split
  · exact good_none
  · rename_i hm
    split
    · exact good_all
    · split
      · exact good_all.minus (good_fold _ _ good_all)
      · refine good_set rfl fun h8 => ?_
        simp only [Bool.not_eq_true', Bool.not_eq_false] at hm
        unfold mayC at hm
        by_cases h0 : c.name.length < 1 ∨ 16 < c.name.length
        · rw [if_pos h0] at hm; cases hm
        · rw [if_neg h0, if_neg (show ¬ c.op = 1 by omega), if_neg (show ¬ (2 ≤ c.op ∧ c.op ≤ 7) by omega), if_pos h8] at hm
          simp only [Bool.and_eq_true, decide_eq_true_eq] at hm
          exact hm.1.2
theorem good_asked (p : List C) (name : List UInt8) : Good4 (askedF p name) := by
  unfold askedF
  split
  · exact good_none
  · have : ∀ (l : List C) (r : Rg), Good4 r → Good4 (l.foldl (fun r c => if c.name = name then r.and (ofR c) else r) r) := fun l => by
      induction l with
      | nil => intro r h; exact h
      | cons c l ih =>
        intro r h
        rw [List.foldl_cons]
        refine ih _ ?_
        split
        · exact h.and (good_of c)
        · exact h
    exact this p _ good_all

theorem bl_zero8 (l : List UInt8) : ∀ k, Op.bytesLess l (List.replicate k 0) = true → l.length < k := by
  induction l with
  | nil => intro k h; cases k with | zero => simp [Op.bytesLess] at h | succ k => simp
  | cons a l ih =>
    intro k h
    cases k with
    | zero => simp [Op.bytesLess] at h
    | succ k =>
      simp only [List.replicate_succ, Op.bytesLess, Bool.or_eq_true, decide_eq_true_eq, Bool.and_eq_true] at h
      rcases h with h | h
      · exact absurd h (UInt8.not_lt_zero)
      · have := ih k h.2; simp; omega
theorem all_has (v : V) : allR.has v = true := by
  unfold Rg.has
  split
  · rfl
  · rename_i hk
    have hlive : (atV v).e = false := by
      unfold atV aroundV numC
      (repeat' split) <;> rfl
    have hlt : Cut.lt (atV v) endC = true := by unfold Cut.lt; rw [hlive]; rfl
    have key : ∀ k, k = v.k → Cut.lt (atV v) (firstC k) = false := fun k hkv => by
      subst hkv
      by_cases h1 : v.k = 1
      · have hl : (atV v).a.length = 8 := by
          have := (around_ok1 h1).1
          rcases this with h | h
          · unfold atV at hlive; rw [hlive] at h; cases h
          · exact h
        unfold firstC Cut.lt
        rw [if_pos h1]
        have e0 : (numC (-9223372036854775808)).a = List.replicate 8 0 := by rfl
        have e1 : (numC (-9223372036854775808)).e = false := rfl
        rw [hlive, e1, e0]
        cases hb : Op.bytesLess (atV v).a (List.replicate 8 0) with
        | false => rfl
        | true => have := bl_zero8 _ _ hb; omega
      · unfold firstC Cut.lt
        rw [if_neg h1, hlive]
        cases (atV v).a <;> rfl
    have fin : ∀ k, k = v.k → inL (atV v) [⟨firstC k, endC⟩] = true := fun k hkv => by
      show (inS _ _ || false) = true
      unfold inS
      rw [key k hkv, hlt]; rfl
    unfold Rg.of
    split
    · rename_i h1; exact fin 1 h1.symm
    · split
      · rename_i h2; exact fin 2 h2.symm
      · exact fin 3 (by omega)
theorem none_has (v : V) : noneR.has v = false := by
  unfold Rg.has Rg.of inL noneR
  (repeat' split) <;> rfl
theorem and_self (r q : Rg) : (r.and q).has = fun v => r.has v && q.has v := by funext v; exact has_and r q v

/-- What a predicate that may be asks of a name. -/
theorem asked_has {p : List C} (hp : mayP p = true) (name : List UInt8) (v : V) : (askedF p name).has v = p.all fun c => !decide (c.name = name) || (ofR c).has v := by
  unfold askedF
  rw [hp]
  have : ∀ (l : List C) (r : Rg), (l.foldl (fun r c => if c.name = name then r.and (ofR c) else r) r).has v = (r.has v && l.all fun c => !decide (c.name = name) || (ofR c).has v) := fun l => by
    induction l with
    | nil => intro r; simp
    | cons c l ih =>
      intro r
      rw [List.foldl_cons, ih, List.all_cons]
      by_cases hn : c.name = name
      · rw [if_pos hn, has_and, decide_eq_true hn, Bool.and_assoc]; rfl
      · rw [if_neg hn, decide_eq_false hn]; rfl
  show (p.foldl _ allR).has v = _
  rw [this, all_has, Bool.true_and]

/-! Covering -/
theorem names_mem (p : List C) (n : List UInt8) : n ∈ namesF p ↔ ∃ c ∈ p, c.name = n := by
  unfold namesF
  rw [sortU_mem _ (fun _ _ _ _ => bytes_zero), List.mem_map]
theorem asked_free {p : List C} (hp : mayP p = true) {n : List UInt8} (hn : n ∉ namesF p) (v : V) : (askedF p n).has v = true := by
  rw [asked_has hp, List.all_eq_true]
  intro c hc
  have : ¬ c.name = n := fun e => hn ((names_mem p n).2 ⟨c, hc, e⟩)
  rw [decide_eq_false this]; rfl
theorem none_iff {p : List C} : noneF p = true ↔ ∃ n ∈ namesF p, ∀ v, (askedF p n).has v = false := by
  unfold noneF
  rw [List.any_eq_true]
  exact ⟨fun ⟨n, h1, h2⟩ => ⟨n, h1, (empty_iff (good_asked p n)).1 h2⟩, fun ⟨n, h1, h2⟩ => ⟨n, h1, (empty_iff (good_asked p n)).2 h2⟩⟩
theorem covers_iff (p q : List C) : coversF p q = true ↔ mayP p = true ∧ mayP q = true ∧ (noneF q = true ∨ ∀ n ∈ namesF p, n ∈ namesF q ∧ ∀ v, (askedF q n).has v = true → (askedF p n).has v = true) := by
  unfold coversF
  simp only [Bool.and_eq_true, Bool.or_eq_true, Bool.not_eq_true', and_assoc]
  refine and_congr_right fun _ => and_congr_right fun _ => or_congr_right ?_
  rw [List.any_eq_false]
  refine forall_congr' fun n => imp_congr_right fun _ => ?_
  rw [← within_iff (good_asked q n) (good_asked p n)]
  simp only [Bool.or_eq_true, Bool.not_eq_true', decide_eq_false_iff_not, not_or, Classical.not_not, Bool.not_eq_false]
theorem covers_refl {p : List C} (h : mayP p = true) : coversF p p = true :=
  (covers_iff p p).2 ⟨h, h, .inr fun _ hn => ⟨hn, fun _ hv => hv⟩⟩
theorem covers_trans {p q r : List C} (h1 : coversF p q = true) (h2 : coversF q r = true) : coversF p r = true := by
  obtain ⟨a1, a2, a3⟩ := (covers_iff p q).1 h1
  obtain ⟨_, b2, b3⟩ := (covers_iff q r).1 h2
  refine (covers_iff p r).2 ⟨a1, b2, ?_⟩
  rcases b3 with b3 | b3
  · exact .inl b3
  · rcases a3 with a3 | a3
    · left
      obtain ⟨n, hn, hv⟩ := none_iff.1 a3
      refine none_iff.2 ⟨n, (b3 n hn).1, fun v => ?_⟩
      cases h : (askedF r n).has v with
      | false => rfl
      | true => have := (b3 n hn).2 v h; rw [hv] at this; cases this
    · right
      intro n hn
      exact ⟨(b3 n (a3 n hn).1).1, fun v hv => (a3 n hn).2 v ((b3 n (a3 n hn).1).2 v hv)⟩
/-- Fewer constraints cover more. -/
theorem covers_sub {p q : List C} (hp : mayP p = true) (hq : mayP q = true) (h : ∀ c ∈ p, c ∈ q) : coversF p q = true := by
  refine (covers_iff p q).2 ⟨hp, hq, .inr fun n hn => ?_⟩
  obtain ⟨c, hc, e⟩ := (names_mem p n).1 hn
  refine ⟨(names_mem q n).2 ⟨c, h c hc, e⟩, fun v hv => ?_⟩
  rw [asked_has hp, List.all_eq_true]
  rw [asked_has hq, List.all_eq_true] at hv
  exact fun c hc => hv c (h c hc)

end Go.Proofs.YtaklnpjpndkccaaGreat

namespace Go.Proofs.YtaklnpjpndkccaaGreat
open Go.RowKit

theorem bytes_vals : ∀ a b : List UInt8, Lib.compareBytes a b = -1 ∨ Lib.compareBytes a b = 0 ∨ Lib.compareBytes a b = 1
  | [], [] => .inr (.inl rfl)
  | [], _ :: _ => .inl rfl
  | _ :: _, [] => .inr (.inr rfl)
  | a :: x, b :: y => by
    simp only [Lib.compareBytes]
    split
    · exact .inl rfl
    · split
      · exact .inr (.inr rfl)
      · exact bytes_vals x y
theorem bytes_cases (a b : List UInt8) : (Lib.compareBytes a b = -1 ∧ Op.bytesLess a b = true ∧ (a == b) = false) ∨ (a = b ∧ Lib.compareBytes a b = 0 ∧ Op.bytesLess a b = false) ∨ (Lib.compareBytes a b = 1 ∧ Op.bytesLess a b = false ∧ (a == b) = false) := by
  have hne : Lib.compareBytes a b ≠ 0 → (a == b) = false := fun h => beq_eq_false_iff_ne.2 (fun e => h (by rw [e]; exact wo_bytes.refl b))
  have hlt : ¬ Lib.compareBytes a b < 0 → Op.bytesLess a b = false := fun h => by
    cases hb : Op.bytesLess a b with
    | false => rfl
    | true => exact absurd ((bl_lt a b).1 hb) h
  rcases bytes_vals a b with h | h | h
  · exact .inl ⟨h, (bl_lt a b).2 (by omega), hne (by omega)⟩
  · exact .inr (.inl ⟨bytes_zero h, h, hlt (by omega)⟩)
  · exact .inr (.inr ⟨h, hlt (by omega), hne (by omega)⟩)

set_option maxRecDepth 100000 in
set_option maxHeartbeats 4000000 in
theorem rcompare_any (w : World) (ak an bk bn : Int) (sa sb : List UInt8) (ab bb : Bool) :
    Calls Tryz.prog 107 #[.agg #[.int .i64 ak, .int .i64 an, .string (strOf sa), .bool ab], .agg #[.int .i64 bk, .int .i64 bn, .string (strOf sb), .bool bb]] w
      fun e w' => e = .returned (.int .i64 (cmpV ⟨ak, an, sa, ab⟩ ⟨bk, bn, sb, bb⟩)) ∧ Grew w w' := by
  by_cases hk : ak = bk
  · subst hk
    by_cases h1 : ak = 1
    · subst h1
      have e : cmpV ⟨1, an, sa, ab⟩ ⟨1, bn, sb, bb⟩ = Lib.compareInt an bn := rfl
      rw [e]
      clear e
      rcases Int.lt_trichotomy an bn with h | h | h
      · have e : Lib.compareInt an bn = -1 := by unfold Lib.compareInt; rw [if_pos h]
        rw [e]
        have d1 : decide (an < bn) = true := decide_eq_true h
        have d2 : decide (bn < an) = false := decide_eq_false (by omega)
        clear e h
        go_enter Tryz.func107, Tryz.ntmps107
        go_wp2
        go_ret
        exact ⟨rfl, ((Grew.refl w).alloc _).alloc _⟩
      · subst h
        have e : Lib.compareInt an an = 0 := wo_int.refl an
        rw [e]
        clear e
        go_enter Tryz.func107, Tryz.ntmps107
        go_wp2
        go_ret
        exact ⟨rfl, ((Grew.refl w).alloc _).alloc _⟩
      · have e : Lib.compareInt an bn = 1 := by unfold Lib.compareInt; rw [if_neg (by omega), if_pos h]
        rw [e]
        have d1 : decide (an < bn) = false := decide_eq_false (by omega)
        have d2 : decide (bn < an) = true := decide_eq_true h
        clear e h
        go_enter Tryz.func107, Tryz.ntmps107
        go_wp2
        go_ret
        exact ⟨rfl, ((Grew.refl w).alloc _).alloc _⟩
    · have d1 := beq_int_ne h1
      by_cases h2 : ak = 2
      · subst h2
        have e : cmpV ⟨2, an, sa, ab⟩ ⟨2, bn, sb, bb⟩ = Lib.compareBytes sa sb := rfl
        rw [e]
        clear e d1 h1
        rcases bytes_cases sa sb with ⟨e, d1, d2⟩ | ⟨h, e, d1⟩ | ⟨e, d1, d2⟩
        · rw [e]
          clear e
          go_enter Tryz.func107, Tryz.ntmps107
          go_wp2
          go_ret
          exact ⟨rfl, ((Grew.refl w).alloc _).alloc _⟩
        · subst h
          rw [e]
          have d2 : (sa == sa) = true := beq_self_eq_true sa
          clear e
          go_enter Tryz.func107, Tryz.ntmps107
          go_wp2
          go_ret
          exact ⟨rfl, ((Grew.refl w).alloc _).alloc _⟩
        · rw [e]
          clear e
          go_enter Tryz.func107, Tryz.ntmps107
          go_wp2
          go_ret
          exact ⟨rfl, ((Grew.refl w).alloc _).alloc _⟩
      · have d2 := beq_int_ne h2
        by_cases h3 : ak = 3
        · subst h3
          have e : cmpV ⟨3, an, sa, ab⟩ ⟨3, bn, sb, bb⟩ = cmpB ab bb := rfl
          rw [e]
          clear e d1 h1 d2 h2
          cases ab <;> cases bb
          all_goals
            go_enter Tryz.func107, Tryz.ntmps107
            go_wp2
            go_ret
            exact ⟨rfl, ((Grew.refl w).alloc _).alloc _⟩
        · have d3 := beq_int_ne h3
          have e : cmpV ⟨ak, an, sa, ab⟩ ⟨ak, bn, sb, bb⟩ = 0 := by unfold cmpV; rw [if_pos rfl, if_neg h1, if_neg h2, if_neg h3]
          rw [e]
          clear e h1 h2 h3
          go_enter Tryz.func107, Tryz.ntmps107
          go_wp2
          go_ret
          exact ⟨rfl, ((Grew.refl w).alloc _).alloc _⟩
  · have e : cmpV ⟨ak, an, sa, ab⟩ ⟨bk, bn, sb, bb⟩ = Lib.compareInt ak bk := by unfold cmpV; rw [if_neg hk]
    rw [e]
    have d1 : (ak != bk) = true := by simp [hk]
    clear e
    rcases Int.lt_or_gt_of_ne hk with h | h
    · have e : Lib.compareInt ak bk = -1 := by unfold Lib.compareInt; rw [if_pos h]
      rw [e]
      have d2 : decide (ak < bk) = true := decide_eq_true h
      clear e h hk
      go_enter Tryz.func107, Tryz.ntmps107
      go_wp2
      go_ret
      exact ⟨rfl, ((Grew.refl w).alloc _).alloc _⟩
    · have e : Lib.compareInt ak bk = 1 := by unfold Lib.compareInt; rw [if_neg (by omega), if_pos h]
      rw [e]
      have d2 : decide (ak < bk) = false := decide_eq_false (by omega)
      clear e h hk
      go_enter Tryz.func107, Tryz.ntmps107
      go_wp2
      go_ret
      exact ⟨rfl, ((Grew.refl w).alloc _).alloc _⟩

end Go.Proofs.YtaklnpjpndkccaaGreat

namespace Go.Proofs.YtaklnpjpndkccaaGreat
open Go.RowKit

theorem isEmpty_beq (s : List UInt8) : s.isEmpty = (s == []) := by cases s <;> rfl
theorem mayV_1 (n : Int) (s : List UInt8) (b : Bool) : mayV ⟨1, n, s, b⟩ = ((s == []) && !b) := by rw [← isEmpty_beq]; rfl
theorem mayV_2 (n : Int) (s : List UInt8) (b : Bool) : mayV ⟨2, n, s, b⟩ = (decide (s.length ≤ 32) && (n == 0) && !b) := by
  show (decide (n = 0) && !b && decide (s.length ≤ 32)) = _
  rw [show (n == 0) = decide (n = 0) from rfl]
  cases decide (n = 0) <;> cases b <;> cases decide (s.length ≤ 32) <;> rfl
theorem mayV_3 (n : Int) (s : List UInt8) (b : Bool) : mayV ⟨3, n, s, b⟩ = ((n == 0) && (s == [])) := by rw [← isEmpty_beq]; rfl
theorem mayV_no {k n : Int} {s : List UInt8} {b : Bool} (h1 : k ≠ 1) (h2 : k ≠ 2) (h3 : k ≠ 3) : mayV ⟨k, n, s, b⟩ = false := by unfold mayV; rw [if_neg h1, if_neg h2, if_neg h3]

set_option maxRecDepth 100000 in
set_option maxHeartbeats 4000000 in
theorem rmayV_any (w : World) (v : V) : Calls Tryz.prog 135 #[.agg #[.int .i64 v.k, .int .i64 v.n, .string (strOf v.s), .bool v.b]] w fun e w' => e = .returned (.bool (mayV v)) ∧ Grew w w' := by
  obtain ⟨k, n, s, b⟩ := v
  dsimp only
  by_cases h1 : k = 1
  · subst h1
    rw [mayV_1]
    cases hs : (s == []) <;> cases b
    all_goals
      go_enter Tryz.func135, Tryz.ntmps135
      go_wp2
      go_ret
      exact ⟨rfl, (Grew.refl w).alloc _⟩
  have d1 := beq_int_ne h1
  by_cases h2 : k = 2
  · subst h2
    rw [mayV_2]
    clear d1
    cases hl : decide (s.length ≤ 32)
    · have hl2 : decide (((strOf s).size : Int) ≤ 32) = false := by rw [show (strOf s).size = s.length from rfl]; exact decide_eq_false (by have := of_decide_eq_false hl; omega)
      go_enter Tryz.func135, Tryz.ntmps135
      go_wp2
      go_ret
      exact ⟨rfl, (Grew.refl w).alloc _⟩
    · have hl2 : decide (((strOf s).size : Int) ≤ 32) = true := by rw [show (strOf s).size = s.length from rfl]; exact decide_eq_true (by have := of_decide_eq_true hl; omega)
      cases hn : (n == 0) <;> cases b
      all_goals
        go_enter Tryz.func135, Tryz.ntmps135
        go_wp2
        go_ret
        exact ⟨rfl, (Grew.refl w).alloc _⟩
  have d2 := beq_int_ne h2
  by_cases h3 : k = 3
  · subst h3
    rw [mayV_3]
    clear d1 d2
    cases hn : (n == 0) <;> cases hs : (s == [])
    all_goals
      go_enter Tryz.func135, Tryz.ntmps135
      go_wp2
      go_ret
      exact ⟨rfl, (Grew.refl w).alloc _⟩
  · have d3 := beq_int_ne h3
    rw [mayV_no h1 h2 h3]
    clear h1 h2 h3
    go_enter Tryz.func135, Tryz.ntmps135
    go_wp2
    go_ret
    exact ⟨rfl, (Grew.refl w).alloc _⟩
set_option maxRecDepth 100000 in
set_option maxHeartbeats 4000000 in
theorem rbare_any (w : World) (v : V) : Calls Tryz.prog 134 #[.agg #[.int .i64 v.k, .int .i64 v.n, .string (strOf v.s), .bool v.b]] w fun e w' => e = .returned (.bool (bareV v)) ∧ Grew w w' := by
  obtain ⟨k, n, s, b⟩ := v
  dsimp only
  rw [show bareV ⟨k, n, s, b⟩ = ((k == 0) && ((n == 0) && ((s == []) && (b == false)))) by unfold bareV; rw [Bool.eq_iff_iff]; simp]
  cases hk : (k == 0)
  · go_enter Tryz.func134, Tryz.ntmps134
    go_wp2
    go_ret
    exact ⟨rfl, (Grew.refl w).alloc _⟩
  · cases hn : (n == 0) <;> cases hs : (s == []) <;> cases b
    all_goals
      go_enter Tryz.func134, Tryz.ntmps134
      go_wp2
      go_ret
      exact ⟨rfl, (Grew.refl w).alloc _⟩
end Go.Proofs.YtaklnpjpndkccaaGreat

namespace Go.Proofs.YtaklnpjpndkccaaGreat
open Go.RowKit

theorem mayC_other {c : C} (hn : ¬ (c.name.length < 1 ∨ 16 < c.name.length)) (h1 : c.op ≠ 1) (h9 : c.op ≠ 9) : mayC c = (decide (2 ≤ c.op) && (decide (c.op ≤ 8) && (decide (c.set.length = 0) && (mayV c.v && (!decide (c.op = 8) || decide (c.v.k = 2)))))) := by
  have he : c.set.isEmpty = decide (c.set.length = 0) := by cases c.set <;> rfl
  unfold mayC
  rw [if_neg hn, if_neg h1, he]
  by_cases h27 : 2 ≤ c.op ∧ c.op ≤ 7
  · rw [if_pos h27, decide_eq_true h27.1, decide_eq_true (show c.op ≤ 8 by omega), decide_eq_false (show ¬ c.op = 8 by omega)]
    cases mayV c.v <;> cases decide (c.set.length = 0) <;> rfl
  · rw [if_neg h27]
    by_cases h8 : c.op = 8
    · rw [if_pos h8, decide_eq_true (show 2 ≤ c.op by omega), decide_eq_true (show c.op ≤ 8 by omega), decide_eq_true h8]
      cases mayV c.v <;> cases decide (c.set.length = 0) <;> cases decide (c.v.k = 2) <;> rfl
    · rw [if_neg h8, if_neg h9]
      by_cases h2 : 2 ≤ c.op
      · rw [decide_eq_false (show ¬ c.op ≤ 8 by omega)]; simp
      · rw [decide_eq_false h2]; rfl

set_option maxRecDepth 100000 in
set_option maxHeartbeats 16000000 in
theorem rmaycons_any (w : World) (c : C) (sa : Option Addr) (sc : Nat) (hs : SetR w (.slice sa c.set.length sc) c.set) :
    Calls Tryz.prog 106 #[.agg #[.string (strOf c.name), .int .i64 c.op, .int .i64 c.v.k, .int .i64 c.v.n, .string (strOf c.v.s), .bool c.v.b, .slice sa c.set.length sc]] w fun e w' => e = .returned (.bool (mayC c)) ∧ Ext w w' := by
  obtain ⟨hx0, hb1⟩ := boxes1 w (.cells #[.string (strOf c.name), .int .i64 c.op, .int .i64 c.v.k, .int .i64 c.v.n, .string (strOf c.v.s), .bool c.v.b, .slice sa c.set.length sc] 94)
  obtain ⟨hc1, hm1⟩ : c.set.length ≤ sc ∧ sc ≤ maxLen := by obtain ⟨a', c', e, h1, h2⟩ := Row.shape hs; cases e; exact ⟨h1, h2⟩
  unfold maxLen at hm1
  have HS := Lib.hid (SetR.ext hs hx0)
  have HX0 := Lib.hid hx0
  have HV : Hid (∀ W, Calls Tryz.prog 135 #[.agg #[.int .i64 c.v.k, .int .i64 c.v.n, .string (strOf c.v.s), .bool c.v.b]] W fun e w' => e = .returned (.bool (mayV c.v)) ∧ Grew W w') := fun W => rmayV_any W c.v
  have HB : Hid (∀ W, Calls Tryz.prog 134 #[.agg #[.int .i64 c.v.k, .int .i64 c.v.n, .string (strOf c.v.s), .bool c.v.b]] W fun e w' => e = .returned (.bool (bareV c.v)) ∧ Grew W w') := fun W => rbare_any W c.v
  have a0 := cell_of_row _ _ 0 _ _ _ hb1
  have a1 := cell_of_row _ _ 1 _ _ _ hb1
  have a2 := cell_of_row _ _ 2 _ _ _ hb1
  have a3 := cell_of_row _ _ 3 _ _ _ hb1
  have a4 := cell_of_row _ _ 4 _ _ _ hb1
  have a5 := cell_of_row _ _ 5 _ _ _ hb1
  have a6 := cell_of_row _ _ 6 _ _ _ hb1
  clear hs hx0 hb1
  have hsz : (strOf c.name).size = c.name.length := rfl
  by_cases hn0 : c.name.length = 0
  · have f1 : (((strOf c.name).size : Int) == 0) = true := by rw [hsz, hn0]; rfl
    have hr : mayC c = false := by unfold mayC; rw [if_pos (.inl (by omega))]
    rw [hr]
    clear hsz hr
    go_enter Tryz.func106, Tryz.ntmps106
    go_upto_region 1 with fail
    generalize w.alloc (.cells #[.string (strOf c.name), .int .i64 c.op, .int .i64 c.v.k, .int .i64 c.v.n, .string (strOf c.v.s), .bool c.v.b, .slice sa c.set.length sc] 94) = w0 at *
    go_wp2_with fail
    go_ret
    exact ⟨rfl, HX0.out⟩
  have f1 : (((strOf c.name).size : Int) == 0) = false := by rw [hsz]; exact beq_eq_false_iff_ne.2 (by omega)
  by_cases hn16 : 16 < c.name.length
  · have f2 : decide ((16 : Int) < ((strOf c.name).size : Int)) = true := by rw [hsz]; exact decide_eq_true (by omega)
    have hr : mayC c = false := by unfold mayC; rw [if_pos (.inr hn16)]
    rw [hr]
    clear hsz hr
    go_enter Tryz.func106, Tryz.ntmps106
    go_upto_region 1 with fail
    generalize w.alloc (.cells #[.string (strOf c.name), .int .i64 c.op, .int .i64 c.v.k, .int .i64 c.v.n, .string (strOf c.v.s), .bool c.v.b, .slice sa c.set.length sc] 94) = w0 at *
    go_wp2_with fail
    go_ret
    exact ⟨rfl, HX0.out⟩
  have f2 : decide ((16 : Int) < ((strOf c.name).size : Int)) = false := by rw [hsz]; exact decide_eq_false (by omega)
  have hnn : ¬ (c.name.length < 1 ∨ 16 < c.name.length) := by omega
  have he : c.set.isEmpty = decide (c.set.length = 0) := by cases c.set <;> rfl
  clear hsz
  by_cases h1 : c.op = 1
  · have hr : mayC c = (bareV c.v && decide (c.set.length = 0)) := by unfold mayC; rw [if_neg hnn, if_pos h1, he]
    have g1 : (c.op == 1) = true := beq_iff_eq.2 h1
    rw [hr]
    clear hr he h1 hnn hn0 hn16
    generalize bareV c.v = bv at *
    cases bv with
    | false =>
      go_enter Tryz.func106, Tryz.ntmps106
      go_upto_region 1 with fail
      generalize w.alloc (.cells #[.string (strOf c.name), .int .i64 c.op, .int .i64 c.v.k, .int .i64 c.v.n, .string (strOf c.v.s), .bool c.v.b, .slice sa c.set.length sc] 94) = w0 at *
      go_wp2_with (go_at_call 134; (with_reducible refine (HB.out _).mono ?_); rintro e w1 ⟨rfl, hx⟩; have b6 := hx.1.cell a6; have HX1 := Lib.hid hx.1; clear hx)
      go_ret
      exact ⟨rfl, HX0.out.trans HX1.out⟩
    | true =>
      by_cases hl : c.set.length = 0
      · have g2 : ((c.set.length : Int) == 0) = true := beq_iff_eq.2 (by omega)
        rw [decide_eq_true hl]
        clear hl
        go_enter Tryz.func106, Tryz.ntmps106
        go_upto_region 1 with fail
        generalize w.alloc (.cells #[.string (strOf c.name), .int .i64 c.op, .int .i64 c.v.k, .int .i64 c.v.n, .string (strOf c.v.s), .bool c.v.b, .slice sa c.set.length sc] 94) = w0 at *
        go_wp2_with (go_at_call 134; (with_reducible refine (HB.out _).mono ?_); rintro e w1 ⟨rfl, hx⟩; have b6 := hx.1.cell a6; have HX1 := Lib.hid hx.1; clear hx)
        go_ret
        exact ⟨rfl, HX0.out.trans HX1.out⟩
      · have g2 : ((c.set.length : Int) == 0) = false := beq_eq_false_iff_ne.2 (by omega)
        rw [decide_eq_false hl]
        go_enter Tryz.func106, Tryz.ntmps106
        go_upto_region 1 with fail
        generalize w.alloc (.cells #[.string (strOf c.name), .int .i64 c.op, .int .i64 c.v.k, .int .i64 c.v.n, .string (strOf c.v.s), .bool c.v.b, .slice sa c.set.length sc] 94) = w0 at *
        go_wp2_with (go_at_call 134; (with_reducible refine (HB.out _).mono ?_); rintro e w1 ⟨rfl, hx⟩; have b6 := hx.1.cell a6; have HX1 := Lib.hid hx.1; clear hx)
        go_ret
        exact ⟨rfl, HX0.out.trans HX1.out⟩
  have g1 : (c.op == 1) = false := beq_eq_false_iff_ne.2 h1
  by_cases h9 : c.op = 9
  · have hr : mayC c = (bareV c.v && (decide (1 ≤ c.set.length) && (decide (c.set.length ≤ 6) && c.set.all mayV))) := by
      unfold mayC
      rw [if_neg hnn, if_neg h1, if_neg (show ¬ (2 ≤ c.op ∧ c.op ≤ 7) by omega), if_neg (show ¬ c.op = 8 by omega), if_pos h9, Bool.and_assoc, Bool.and_assoc]
    have g9 : (c.op == 9) = true := beq_iff_eq.2 h9
    rw [hr]
    clear hr he h1 h9 hnn hn0 hn16
    generalize bareV c.v = bv at *
    cases bv with
    | false =>
      go_enter Tryz.func106, Tryz.ntmps106
      go_upto_region 1 with fail
      generalize w.alloc (.cells #[.string (strOf c.name), .int .i64 c.op, .int .i64 c.v.k, .int .i64 c.v.n, .string (strOf c.v.s), .bool c.v.b, .slice sa c.set.length sc] 94) = w0 at *
      go_wp2_with (go_at_call 134; (with_reducible refine (HB.out _).mono ?_); rintro e w1 ⟨rfl, hx⟩; have b6 := hx.1.cell a6; have HX1 := Lib.hid hx.1; clear hx)
      go_ret
      exact ⟨rfl, HX0.out.trans HX1.out⟩
    | true =>
      by_cases hl : c.set.length = 0
      · have g2 : ((c.set.length : Int) == 0) = true := beq_iff_eq.2 (by omega)
        rw [decide_eq_false (show ¬ 1 ≤ c.set.length by omega)]
        clear hl
        go_enter Tryz.func106, Tryz.ntmps106
        go_upto_region 1 with fail
        generalize w.alloc (.cells #[.string (strOf c.name), .int .i64 c.op, .int .i64 c.v.k, .int .i64 c.v.n, .string (strOf c.v.s), .bool c.v.b, .slice sa c.set.length sc] 94) = w0 at *
        go_wp2_with (go_at_call 134; (with_reducible refine (HB.out _).mono ?_); rintro e w1 ⟨rfl, hx⟩; have b6 := hx.1.cell a6; have HX1 := Lib.hid hx.1; clear hx)
        go_ret
        exact ⟨rfl, HX0.out.trans HX1.out⟩
      have g2 : ((c.set.length : Int) == 0) = false := beq_eq_false_iff_ne.2 (by omega)
      rw [decide_eq_true (show 1 ≤ c.set.length by omega)]
      by_cases h6 : 6 < c.set.length
      · have g3 : decide ((6 : Int) < (c.set.length : Int)) = true := decide_eq_true (by omega)
        rw [decide_eq_false (show ¬ c.set.length ≤ 6 by omega)]
        go_enter Tryz.func106, Tryz.ntmps106
        go_upto_region 1 with fail
        generalize w.alloc (.cells #[.string (strOf c.name), .int .i64 c.op, .int .i64 c.v.k, .int .i64 c.v.n, .string (strOf c.v.s), .bool c.v.b, .slice sa c.set.length sc] 94) = w0 at *
        go_wp2_with (go_at_call 134; (with_reducible refine (HB.out _).mono ?_); rintro e w1 ⟨rfl, hx⟩; have b6 := hx.1.cell a6; have HX1 := Lib.hid hx.1; clear hx)
        go_ret
        exact ⟨rfl, HX0.out.trans HX1.out⟩
      have g3 : decide ((6 : Int) < (c.set.length : Int)) = false := decide_eq_false (by omega)
      rw [decide_eq_true (show c.set.length ≤ 6 by omega)]
      show Calls _ _ _ _ fun e w' => e = .returned (.bool (c.set.all mayV)) ∧ _
      go_enter Tryz.func106, Tryz.ntmps106
      go_upto_region 1 with fail
      generalize w.alloc (.cells #[.string (strOf c.name), .int .i64 c.op, .int .i64 c.v.k, .int .i64 c.v.n, .string (strOf c.v.s), .bool c.v.b, .slice sa c.set.length sc] 94) = w0 at *
      go_upto_region 8 with (go_at_call 134; (with_reducible refine (HB.out _).mono ?_); rintro e w1 ⟨rfl, hx⟩; have b6 := hx.1.cell a6; have HX1 := Lib.hid hx.1; clear hx)
      have q6 := b6
      clear b6
      have HS1 := Lib.hid (SetR.ext HS.out HX1.out)
      have HXX := Lib.hid (HX0.out.trans HX1.out)
      clear a0 a1 a2 a3 a4 a5 a6
      obtain ⟨n, hn⟩ : ∃ n, n = c.set.length := ⟨_, rfl⟩
      have HN := Lib.hid hn
      rw [← hn] at q6 g2 g3 hl h6 hc1
      have hn6 : n ≤ 6 := by omega
      go_wp2_with fail
      go_loopw [3] (fun i wr => ∃ k : Nat, k ≤ n ∧ i = .int .i64 k ∧ Hid (∀ x ∈ c.set.take k, mayV x = true) ∧ Hid (Ext w1 wr)) (fun i _ => n - (intOf i).toNat)
      case atStart => exact ⟨0, Nat.zero_le _, rfl, (by show ∀ x ∈ c.set.take 0, _; simp), Ext.refl _⟩
      case round =>
        obtain ⟨k, hk, rfl, hall, hx⟩ := hrel
        have p6 := hx.out.cell q6
        by_cases hlt : k < n
        · have hI : decide ((k : Int) < (n : Int)) = true := decide_eq_true (by omega)
          have hkN : (k : Int) < (n : Int) := by omega
          have hkl : k < c.set.length := by have := HN.out; omega
          obtain ⟨B, o, rfl, f0, f1', f2', f3⟩ := SetR.at (SetR.ext HS1.out hx.out) hkl
          have hnext : mayV c.set[k] = true → ∀ x ∈ c.set.take (k + 1), mayV x = true := fun e x hx => by
            rw [List.take_succ_eq_append_getElem hkl] at hx
            rcases List.mem_append.1 hx with hx | hx
            · exact hall.out x hx
            · rw [List.mem_singleton.1 hx]; exact e
          have hno : mayV c.set[k] = false → c.set.all mayV = false := fun e => by
            rw [List.all_eq_false]
            exact ⟨_, List.getElem_mem hkl, by rw [e]; exact Bool.false_ne_true⟩
          have HM := Lib.hid (fun W => rmayV_any W c.set[k])
          have HNX := Lib.hid hnext
          have HNO := Lib.hid hno
          clear hnext hno
          generalize c.set[k] = x at *
          generalize mayV x = mx at *
          cases mx with
          | true =>
            go_wp2_with (go_at_call 135; (with_reducible refine (HM.out _).mono ?_); rintro e w2 ⟨rfl, hx2⟩; have HX2 := Lib.hid (hx.out.trans hx2.1); clear hx2)
            go_roundw
            case rel => exact ⟨k + 1, hlt, by go_num, HNX.out (by first | rfl | trivial), HX2.out⟩
            case measure => simp [intOf]; omega
          | false =>
            have hr := HNO.out (by first | rfl | trivial)
            go_wp2_with (go_at_call 135; (with_reducible refine (HM.out _).mono ?_); rintro e w2 ⟨rfl, hx2⟩; have HX2 := Lib.hid (hx.out.trans hx2.1); clear hx2)
            go_ret
            exact ⟨by rw [hr]; rfl, HXX.out.trans HX2.out⟩
        · obtain rfl : k = n := by omega
          have hI : decide ((k : Int) < (k : Int)) = false := decide_eq_false (by omega)
          have hr : Hid (c.set.all mayV = true) := by
            show _ = _
            rw [List.all_eq_true]
            intro x hx
            refine hall.out x ?_
            rw [List.take_of_length_le (by rw [← HN.out]; exact Nat.le_refl _)]; exact hx
          go_wp2_with fail
          go_ret
          exact ⟨by rw [hr.out]; rfl, HXX.out.trans hx.out⟩
  have g9 : (c.op == 9) = false := beq_eq_false_iff_ne.2 h9
  rw [mayC_other hnn h1 h9]
  clear he hnn hn0 hn16
  by_cases h2 : c.op < 2
  · have g2 : decide (c.op < 2) = true := decide_eq_true h2
    rw [decide_eq_false (show ¬ 2 ≤ c.op by omega)]
    go_enter Tryz.func106, Tryz.ntmps106
    go_upto_region 1 with fail
    generalize w.alloc (.cells #[.string (strOf c.name), .int .i64 c.op, .int .i64 c.v.k, .int .i64 c.v.n, .string (strOf c.v.s), .bool c.v.b, .slice sa c.set.length sc] 94) = w0 at *
    go_wp2_with fail
    go_ret
    exact ⟨rfl, HX0.out⟩
  have g2 : decide (c.op < 2) = false := decide_eq_false h2
  rw [decide_eq_true (show 2 ≤ c.op by omega)]
  by_cases h8 : 8 < c.op
  · have g3 : decide (8 < c.op) = true := decide_eq_true h8
    rw [decide_eq_false (show ¬ c.op ≤ 8 by omega)]
    go_enter Tryz.func106, Tryz.ntmps106
    go_upto_region 1 with fail
    generalize w.alloc (.cells #[.string (strOf c.name), .int .i64 c.op, .int .i64 c.v.k, .int .i64 c.v.n, .string (strOf c.v.s), .bool c.v.b, .slice sa c.set.length sc] 94) = w0 at *
    go_wp2_with fail
    go_ret
    exact ⟨rfl, HX0.out⟩
  have g3 : decide (8 < c.op) = false := decide_eq_false h8
  rw [decide_eq_true (show c.op ≤ 8 by omega)]
  by_cases hl : 0 < c.set.length
  · have g4 : decide ((0 : Int) < (c.set.length : Int)) = true := decide_eq_true (by omega)
    rw [decide_eq_false (show ¬ c.set.length = 0 by omega)]
    go_enter Tryz.func106, Tryz.ntmps106
    go_upto_region 1 with fail
    generalize w.alloc (.cells #[.string (strOf c.name), .int .i64 c.op, .int .i64 c.v.k, .int .i64 c.v.n, .string (strOf c.v.s), .bool c.v.b, .slice sa c.set.length sc] 94) = w0 at *
    go_wp2_with fail
    go_ret
    exact ⟨rfl, HX0.out⟩
  have g4 : decide ((0 : Int) < (c.set.length : Int)) = false := decide_eq_false (by omega)
  rw [decide_eq_true (show c.set.length = 0 by omega)]
  generalize mayV c.v = mv at *
  cases mv with
  | false =>
    go_enter Tryz.func106, Tryz.ntmps106
    go_upto_region 1 with fail
    generalize w.alloc (.cells #[.string (strOf c.name), .int .i64 c.op, .int .i64 c.v.k, .int .i64 c.v.n, .string (strOf c.v.s), .bool c.v.b, .slice sa c.set.length sc] 94) = w0 at *
    go_wp2_with (go_at_call 135; (with_reducible refine (HV.out _).mono ?_); rintro e w1 ⟨rfl, hx⟩; have HX1 := Lib.hid hx.1; clear hx)
    go_ret
    exact ⟨rfl, HX0.out.trans HX1.out⟩
  | true =>
    by_cases h88 : c.op = 8
    · have g5 : (c.op == 8) = true := beq_iff_eq.2 h88
      have g6 : (c.op != 8) = false := by rw [bne, g5]; rfl
      have g7 : decide (c.v.k = 2) = (c.v.k == 2) := rfl
      rw [decide_eq_true h88, g7]
      clear g7
      cases hk : (c.v.k == 2) with
      | false =>
        clear h88
        go_enter Tryz.func106, Tryz.ntmps106
        go_upto_region 1 with fail
        generalize w.alloc (.cells #[.string (strOf c.name), .int .i64 c.op, .int .i64 c.v.k, .int .i64 c.v.n, .string (strOf c.v.s), .bool c.v.b, .slice sa c.set.length sc] 94) = w0 at *
        go_upto_region 16 with (go_at_call 135; (with_reducible refine (HV.out _).mono ?_); rintro e w1 ⟨rfl, hx⟩; have HX1 := Lib.hid hx.1; clear hx)
        have q1 := HX1.out.cell a1
        have q2 := HX1.out.cell a2
        go_wp2_with fail
        go_ret
        exact ⟨rfl, HX0.out.trans HX1.out⟩
      | true =>
        clear h88
        go_enter Tryz.func106, Tryz.ntmps106
        go_upto_region 1 with fail
        generalize w.alloc (.cells #[.string (strOf c.name), .int .i64 c.op, .int .i64 c.v.k, .int .i64 c.v.n, .string (strOf c.v.s), .bool c.v.b, .slice sa c.set.length sc] 94) = w0 at *
        go_upto_region 16 with (go_at_call 135; (with_reducible refine (HV.out _).mono ?_); rintro e w1 ⟨rfl, hx⟩; have HX1 := Lib.hid hx.1; clear hx)
        have q1 := HX1.out.cell a1
        have q2 := HX1.out.cell a2
        go_wp2_with fail
        go_ret
        exact ⟨rfl, HX0.out.trans HX1.out⟩
    · have g5 : (c.op == 8) = false := beq_eq_false_iff_ne.2 h88
      have g6 : (c.op != 8) = true := by rw [bne, g5]; rfl
      rw [decide_eq_false h88]
      go_enter Tryz.func106, Tryz.ntmps106
      go_upto_region 1 with fail
      generalize w.alloc (.cells #[.string (strOf c.name), .int .i64 c.op, .int .i64 c.v.k, .int .i64 c.v.n, .string (strOf c.v.s), .bool c.v.b, .slice sa c.set.length sc] 94) = w0 at *
      go_upto_region 16 with (go_at_call 135; (with_reducible refine (HV.out _).mono ?_); rintro e w1 ⟨rfl, hx⟩; have HX1 := Lib.hid hx.1; clear hx)
      have q1 := HX1.out.cell a1
      have q2 := HX1.out.cell a2
      go_wp2_with fail
      go_ret
      exact ⟨rfl, HX0.out.trans HX1.out⟩

set_option maxRecDepth 100000 in
set_option maxHeartbeats 8000000 in
theorem rpmay_any (w : World) (v : Value) (p : List C) (hp : PredR w v p) : Calls Tryz.prog 70 #[v] w fun e w' => e = .returned (.bool (mayP p)) ∧ Ext w w' := by
  obtain ⟨a, cap, rfl, hc, hm⟩ := hp.shape
  unfold maxLen at hm
  have HP := Lib.hid hp
  obtain ⟨n, hn⟩ : ∃ n, n = p.length := ⟨_, rfl⟩
  have HN := Lib.hid hn
  rw [← hn] at hc ⊢ HP
  clear hn hp
  go_enter Tryz.func70, Tryz.ntmps70
  go_wp2_with fail
  go_loopw [3] (fun i wr => ∃ k : Nat, k ≤ n ∧ i = .int .i64 k ∧ Hid (∀ x ∈ p.take k, mayC x = true) ∧ Hid (Ext w wr)) (fun i _ => n - (intOf i).toNat)
  case atStart => exact ⟨0, Nat.zero_le _, rfl, (by show ∀ x ∈ p.take 0, _; simp), Ext.refl _⟩
  case round =>
    obtain ⟨k, hk, rfl, hall, hx⟩ := hrel
    by_cases hlt : k < n
    · have hI : decide ((k : Int) < (n : Int)) = true := decide_eq_true (by omega)
      have hkN : (k : Int) < (n : Int) := by omega
      have hkl : k < p.length := by have := HN.out; omega
      obtain ⟨B, o, sa, sc, rfl, f0, f1, f2, f3, f4, f5, f6, fs⟩ := (HP.out.ext hx.out).at hkl
      have hnext : mayC p[k] = true → ∀ x ∈ p.take (k + 1), mayC x = true := fun e x hx => by
        rw [List.take_succ_eq_append_getElem hkl] at hx
        rcases List.mem_append.1 hx with hx | hx
        · exact hall.out x hx
        · rw [List.mem_singleton.1 hx]; exact e
      have hno : mayC p[k] = false → mayP p = false := fun e => by
        unfold mayP
        rw [show p.all mayC = false from List.all_eq_false.2 ⟨_, List.getElem_mem hkl, by rw [e]; exact Bool.false_ne_true⟩, Bool.and_false]
      have HM := Lib.hid (rmaycons_any wr p[k] sa sc fs)
      have HNX := Lib.hid hnext
      have HNO := Lib.hid hno
      clear hnext hno fs
      generalize p[k] = x at *
      generalize mayC x = mx at *
      cases mx with
      | true =>
        go_wp2_with (go_at_call 106; (with_reducible refine HM.out.mono ?_); rintro e w2 ⟨rfl, hx2⟩; have HX2 := Lib.hid (hx.out.trans hx2); clear hx2)
        go_roundw
        case rel => exact ⟨k + 1, hlt, by go_num, HNX.out (by first | rfl | trivial), HX2.out⟩
        case measure => simp [intOf]; omega
      | false =>
        have hr := HNO.out (by first | rfl | trivial)
        go_wp2_with (go_at_call 106; (with_reducible refine HM.out.mono ?_); rintro e w2 ⟨rfl, hx2⟩; have HX2 := Lib.hid (hx.out.trans hx2); clear hx2)
        go_ret
        exact ⟨by rw [hr]; rfl, HX2.out⟩
    · obtain rfl : k = n := by omega
      have hI : decide ((k : Int) < (k : Int)) = false := decide_eq_false (by omega)
      have hr : Hid (mayP p = decide (k ≤ 6)) := by
        show _ = _
        have h1 : p.all mayC = true := by
          rw [List.all_eq_true]
          intro x hx
          refine hall.out x ?_
          rw [List.take_of_length_le (by rw [← HN.out]; exact Nat.le_refl _)]; exact hx
        unfold mayP
        rw [h1, Bool.and_true, HN.out]
      have h6 : decide ((k : Int) ≤ 6) = decide (k ≤ 6) := by rw [Bool.eq_iff_iff, decide_eq_true_iff, decide_eq_true_iff]; omega
      go_wp2_with fail
      go_ret
      exact ⟨by rw [hr.out]; first | rfl | rw [← h6] | exact congrArg (fun x => Ending.returned (Value.bool x)) h6, hx.out⟩
end Go.Proofs.YtaklnpjpndkccaaGreat

namespace Go.Proofs.YtaklnpjpndkccaaGreat

theorem insU_at {α : Type} (cf : α → α → Int) (x : α) : ∀ (l : List α) (k : Nat), k ≤ l.length → (∀ j (hj : j < l.length), j < k → cf l[j] x < 0) → (∀ h : k < l.length, ¬ cf l[k] x < 0) →
    insU cf x l = if h : k < l.length then (if cf l[k] x = 0 then l else l.take k ++ x :: l.drop k) else l ++ [x]
  | [], k, hk, _, _ => by
    have : k = 0 := by simpa using hk
    subst this
    simp [insU]
  | y :: r, 0, _, _, hge => by
    have h0 := hge (by simp)
    simp only [List.getElem_cons_zero] at h0
    simp only [insU, if_neg h0]
    rw [dif_pos (by simp)]
    simp
  | y :: r, k + 1, hk, hlt, hge => by
    have h0 := hlt 0 (by simp) (by omega)
    simp only [List.getElem_cons_zero] at h0
    have ih := insU_at cf x r k (by simpa using hk) (fun j hj hjk => hlt (j + 1) (Nat.succ_lt_succ hj) (by omega)) (fun h => hge (Nat.succ_lt_succ h))
    simp only [insU, if_pos h0, ih]
    by_cases h : k < r.length
    · rw [dif_pos h, dif_pos (by simpa using h)]
      simp only [List.getElem_cons_succ]
      by_cases h2 : cf r[k] x = 0
      · rw [if_pos h2, if_pos h2]
      · rw [if_neg h2, if_neg h2]; simp
    · rw [dif_neg h, dif_neg (by simpa using h)]; simp
theorem insU_stop {α : Type} (cf : α → α → Int) (x : α) {l : List α} {k : Nat} (h : k < l.length) (hlt : ∀ j (hj : j < l.length), j < k → cf l[j] x < 0) (he : cf l[k] x = 0) : insU cf x l = l := by
  rw [insU_at cf x l k (Nat.le_of_lt h) hlt (fun _ => by omega), dif_pos h, if_pos he]
theorem insU_here {α : Type} (cf : α → α → Int) (x : α) {l : List α} {k : Nat} (h : k ≤ l.length) (hlt : ∀ j (hj : j < l.length), j < k → cf l[j] x < 0) (he : ∀ h : k < l.length, 0 < cf l[k] x) : insU cf x l = l.take k ++ x :: l.drop k := by
  rw [insU_at cf x l k h hlt (fun h => by have := he h; omega)]
  by_cases hk : k < l.length
  · rw [dif_pos hk, if_neg (by have := he hk; omega)]
  · rw [dif_neg hk]
    have : k = l.length := by omega
    subst this
    simp
end Go.Proofs.YtaklnpjpndkccaaGreat
