/- What memory holds, read: rows of structs, values, constraints, predicates, attributes; worlds that only grew and drew.
What the rows' proofs share: arguments opened: values, sets, predicates, attributes, events, names.
strings.Compare, strings.HasPrefix at this dump, laid by the kit's lay-shelf and lay-plain.
Values compared: value.Compare, the reference's Compare; what a value may be.
slices.IndexFunc, slices.ContainsFunc at attributes, constraints, values (printed by gen_find.py).
A law's argument of predicates, opened. (Of any seat that holds []api.Pred.)
Rows of the call's own: later, kept, apart. (Of any program.)
A constraint's set in memory of the call's own. (Of any seat that holds api.Constraint.)
Maps told by their entries: looking up, storing, deleting, ranging. (Of any program.) -/
import Derived.Sort.Grow
import Derived.Deep.Draws
import Derived.Test.YtlhbpflcffjhmaaGreatProg
import Derived.ProofKit
import Derived.OpenShut
import Derived.ChangeOld
import Derived.SizedLaws
import Derived.Deep.Slices
import Derived.Deep.Fields
import Derived.ChangeSame
import Derived.Shelf.Small.Strs
import Derived.Shelf.Strings.Prefix
import Derived.Test.YtlhbpflcffjhmaaGreatRows
import Derived.WalkKit
import Derived.BigQuiet
import Derived.Deep.QuietTactic
import Derived.Deep.RegionWith
import Derived.Deep.RegionLaw
import Derived.Lib.Hide
import Derived.Deep.DeepCutAuto
import Derived.WalkSpells
import Derived.WalkLawsBesides
import Derived.MapKept
import Derived.ChangeMaps5
import Derived.Carry
import Derived.Maps.RangeRun
import Derived.OwnWalk
import Derived.Test.YtlhbpflcffjhmaaGreatPk1
namespace Go.Proofs.YtlhbpflcffjhmaaGreat
open Go.RowKit

/-- w' is w, with more memory and more draws: nothing that was there has turned. -/
def Grew (w w' : World) : Prop := Ext w w' ∧ w.drawn ≤ w'.drawn
theorem Grew.refl (w : World) : Grew w w := ⟨Ext.refl w, Nat.le_refl _⟩
theorem Grew.trans {a b c : World} (h : Grew a b) (k : Grew b c) : Grew a c := ⟨h.1.trans k.1, Nat.le_trans h.2 k.2⟩
theorem Grew.drew {a w : World} (h : Grew a w) : Grew a w.drew := ⟨h.1.drew, Nat.le_succ_of_le h.2⟩
theorem Grew.alloc {a w : World} (h : Grew a w) (o : Obj) : Grew a (w.alloc o) := ⟨h.1.alloc o, h.2⟩
theorem Grew.drewN {a w : World} (h : Grew a w) (n : Nat) : Grew a (w.drewN n) := ⟨⟨h.1.os, h.1.tape, h.1.output, h.1.size, h.1.block⟩, Nat.le_trans h.2 (Nat.le_add_right _ _)⟩
theorem Ext.drewN {a w : World} (h : Ext a w) (n : Nat) : Ext a (w.drewN n) := ⟨h.os, h.tape, h.output, h.size, h.block⟩
/-- In the sort's words. -/
theorem Grew.grown {w w' : World} (h : Grew w w') : ∃ q os, w' = Go.Sort.grow (w.drewN q) os := by
  obtain ⟨hx, hd⟩ := h
  refine ⟨w'.drawn - w.drawn, w'.heap.extract w.heap.size w'.heap.size, ?_⟩
  obtain ⟨wh, wt, wd, wo, wp⟩ := w
  obtain ⟨vh, vt, vd, vo, vp⟩ := w'
  have h1 : vt = wt := hx.tape
  have h2 : vo = wo := hx.os
  have h3 : vp = wp := hx.output
  have h4 : wh.size ≤ vh.size := hx.size
  have h5 : ∀ k, k < wh.size → vh[k]? = wh[k]? := hx.block
  subst h1; subst h2; subst h3
  have hdd : wd + (vd - wd) = vd := by have : wd ≤ vd := hd; omega
  have hh : vh = wh ++ vh.extract wh.size vh.size := by
    apply Array.ext_getElem?
    intro i
    rw [Array.getElem?_append]
    split
    · rename_i hi; exact h5 i hi
    · rename_i hi
      rw [Array.getElem?_extract]
      by_cases hv : i < vh.size
      · rw [if_pos (by omega)]; congr 1; omega
      · rw [if_neg (by omega), Array.getElem?_eq_none (by omega)]
  show (⟨vh, vt, vd, vo, vp⟩ : World) = ⟨wh ++ vh.extract wh.size vh.size, vt, wd + (vd - wd), vo, vp⟩
  rw [hdd, ← hh]
theorem Grew.of_grown (w : World) (q : Nat) (os : Array Obj) : Grew w (Go.Sort.grow (w.drewN q) os) := by
  refine ⟨⟨rfl, rfl, rfl, ?_, fun k hk => ?_⟩, Nat.le_add_right _ _⟩
  · show w.heap.size ≤ (w.heap ++ os).size
    rw [Array.size_append]; omega
  · show (w.heap ++ os)[k]? = w.heap[k]?
    rw [Array.getElem?_append_left hk]

/-! Rows of structs -/
section
variable {α : Type}
theorem flat_len (f : α → List Value) (sz : Nat) (hf : ∀ x, (f x).length = sz) (xs : List α) : (xs.flatMap f).length = xs.length * sz := by
  induction xs with
  | nil => simp
  | cons x xs ih => rw [List.flatMap_cons, List.length_append, ih, hf, List.length_cons, Nat.succ_mul]; omega
theorem flat_get (f : α → List Value) (sz : Nat) (hf : ∀ x, (f x).length = sz) : ∀ (xs : List α) (k : Nat) (hk : k < xs.length) (j : Nat), j < sz → (xs.flatMap f)[k * sz + j]? = (f xs[k])[j]?
  | [], k, hk, _, _ => by simp at hk
  | x :: xs, 0, _, j, hj => by
    rw [List.flatMap_cons, Nat.zero_mul, Nat.zero_add, List.getElem?_append_left (by rw [hf]; exact hj)]; rfl
  | x :: xs, k + 1, hk, j, hj => by
    rw [List.flatMap_cons, List.getElem?_append_right (by rw [hf, Nat.succ_mul]; omega), hf]
    have e : (k + 1) * sz + j - sz = k * sz + j := by rw [Nat.succ_mul]; omega
    rw [e, flat_get f sz hf xs k (by simpa using hk) j hj]; rfl
theorem flat_take (f : α → List Value) (sz : Nat) (hf : ∀ x, (f x).length = sz) : ∀ (xs : List α) (k : Nat), (xs.flatMap f).take (k * sz) = (xs.take k).flatMap f
  | [], k => by simp
  | x :: xs, 0 => by simp
  | x :: xs, k + 1 => by
    rw [List.flatMap_cons, List.take_succ_cons, List.flatMap_cons, Nat.succ_mul, Nat.add_comm, List.take_append, hf, List.take_of_length_le (by rw [hf]; omega), Nat.add_sub_cancel_left, flat_take f sz hf xs k]
theorem flat_drop (f : α → List Value) (sz : Nat) (hf : ∀ x, (f x).length = sz) : ∀ (xs : List α) (k : Nat), (xs.flatMap f).drop (k * sz) = (xs.drop k).flatMap f
  | [], k => by simp
  | x :: xs, 0 => by simp
  | x :: xs, k + 1 => by
    rw [List.flatMap_cons, List.drop_succ_cons, Nat.succ_mul, Nat.add_comm, List.drop_append, hf, List.drop_of_length_le (by rw [hf]; omega), Nat.add_sub_cancel_left, flat_drop f sz hf xs k, List.nil_append]
end

theorem Row.cell {w : World} {size n m cap : Nat} {a : Option Addr} {xs : List Value} {u : Value} (h : Row w size (.slice a m cap) n xs) {j : Nat} (hj : xs[j]? = some u) (hn : 0 < n) : ∃ B o, a = some ⟨B, o, none⟩ ∧ w.cell? ⟨B, o + j, none⟩ = some u := by
  obtain ⟨_, a', cap', hv, hc, _, _, hspot, hcell⟩ := h
  simp only [Value.slice.injEq] at hv
  obtain ⟨rfl, rfl, rfl⟩ := hv
  obtain ⟨p, rfl, hcl⟩ := hcell j u hj
  have := hspot p rfl (by omega)
  obtain ⟨pb, po, ps⟩ := p
  simp only at this
  subst this
  exact ⟨pb, po, rfl, hcl⟩
theorem Row.shape {w : World} {size n : Nat} {v : Value} {xs : List Value} (h : Row w size v n xs) : ∃ a cap, v = .slice a n cap ∧ n ≤ cap ∧ cap ≤ maxLen := by
  obtain ⟨_, a, cap, h1, h2, h3, _⟩ := h; exact ⟨a, cap, h1, h2, h3⟩
theorem Row.base {w : World} {size n m cap : Nat} {a : Option Addr} {xs : List Value} (h : Row w size (.slice a m cap) n xs) (hn : 0 < n) (hs : 0 < size) : ∃ B o, a = some ⟨B, o, none⟩ := by
  have hl := h.1
  have : 0 < xs.length := by rw [hl]; exact Nat.mul_pos hn hs
  obtain ⟨B, o, e, _⟩ := Row.cell h (j := 0) (List.getElem?_eq_getElem this) hn
  exact ⟨B, o, e⟩
theorem Row.cellAt {w : World} {size n m cap B o : Nat} {xs : List Value} {u : Value} (h : Row w size (.slice (some ⟨B, o, none⟩) m cap) n xs) {j : Nat} (hj : xs[j]? = some u) (hn : 0 < n) : w.cell? ⟨B, o + j, none⟩ = some u := by
  obtain ⟨B', o', e, hc⟩ := Row.cell h hj hn
  cases e; exact hc

/-- A part of a row. -/
theorem Row.sub {w : World} {size n cap : Nat} {a : Option Addr} {xs : List Value} (h : Row w size (.slice a n cap) n xs) (i j : Nat) (hij : i ≤ j) (hj : j ≤ n) (c : Nat) (hc : j - i ≤ c) (hcc : c ≤ cap - i) : Row w size (.slice (if cap = i then a else a.map (·.add (i * size))) (j - i) c) (j - i) ((xs.take (j * size)).drop (i * size)) := by
  obtain ⟨hl, a', cap', hv, hcp, hm, hnil, hspot, hcell⟩ := h
  simp only [Value.slice.injEq] at hv
  obtain ⟨rfl, -, rfl⟩ := hv
  refine ⟨?_, _, _, rfl, hc, by omega, fun he => ?_, fun p hp h0 => ?_, fun k u hk => ?_⟩
  · rw [List.length_drop, List.length_take, hl, Nat.sub_mul, Nat.min_eq_left (Nat.mul_le_mul_right _ hj)]
  · split at he
    · have := hnil he; omega
    · cases a with
      | none => have := hnil rfl; omega
      | some p => simp at he
  · split at hp
    · exact hspot p hp (by omega)
    · cases a with
      | none => simp at hp
      | some p' =>
        simp at hp
        rw [← hp]
        unfold Addr.add
        split
        · exact hspot p' rfl (by omega)
        · rfl
  · rw [List.getElem?_drop, List.getElem?_take] at hk
    split at hk
    · rename_i hlt
      obtain ⟨p, hp, hcl⟩ := hcell _ _ hk
      have hne : ¬ cap = i := by
        intro he
        have : j = i := by omega
        subst this
        omega
      rw [if_neg hne, hp]
      refine ⟨p.add (i * size), rfl, ?_⟩
      have hps := hspot p hp (by omega)
      obtain ⟨pb, po, ps⟩ := p
      simp only at hps
      subst hps
      by_cases h0 : i * size = 0
      · simp only [Addr.add, h0, if_true]
        rw [h0, Nat.zero_add] at hcl
        exact hcl
      · simp only [Addr.add, h0, if_false]
        rw [Nat.add_assoc]; exact hcl
    · cases hk

/-! Values, constraints, predicates, attributes -/
def vC (v : V) : List Value := [.int .i64 v.k, .int .i64 v.n, .string (strOf v.s), .bool v.b]
theorem vC_len (v : V) : (vC v).length = 4 := rfl
def SetR (W : World) (h : Value) (l : List V) : Prop := Row W 4 h l.length (l.flatMap vC)
theorem SetR.ext {W W' : World} {h : Value} {l : List V} (k : SetR W h l) (hx : Ext W W') : SetR W' h l := Row.ext k hx
theorem SetR.nil (W : World) : SetR W (.slice none 0 0) [] := Row.nil W 4
theorem SetR.at {W : World} {a : Option Addr} {n cap : Nat} {l : List V} (h : SetR W (.slice a n cap) l) {k : Nat} (hk : k < l.length) :
    ∃ B o, a = some ⟨B, o, none⟩ ∧ W.cell? ⟨B, o + k * 4, none⟩ = some (.int .i64 l[k].k) ∧ W.cell? ⟨B, o + k * 4 + 1, none⟩ = some (.int .i64 l[k].n) ∧ W.cell? ⟨B, o + k * 4 + 2, none⟩ = some (.string (strOf l[k].s)) ∧ W.cell? ⟨B, o + k * 4 + 3, none⟩ = some (.bool l[k].b) := by
  obtain ⟨B, o, rfl⟩ := Row.base h (by omega) (by decide)
  have g := fun j hj => flat_get vC 4 vC_len l k hk j hj
  exact ⟨B, o, rfl, Row.cellAt h (g 0 (by decide)) (by omega), Row.cellAt h (g 1 (by decide)) (by omega), Row.cellAt h (g 2 (by decide)) (by omega), Row.cellAt h (g 3 (by decide)) (by omega)⟩

/-- A constraint where it stands: its set's slice. -/
structure CS where
  c : C
  h : Value
def csC (x : CS) : List Value := [.string (strOf x.c.name), .int .i64 x.c.op, .int .i64 x.c.v.k, .int .i64 x.c.v.n, .string (strOf x.c.v.s), .bool x.c.v.b, x.h]
theorem csC_len (x : CS) : (csC x).length = 7 := rfl
def PredR (W : World) (v : Value) (p : List C) : Prop := ∃ us : List CS, us.map CS.c = p ∧ Row W 7 v us.length (us.flatMap csC) ∧ ∀ x ∈ us, SetR W x.h x.c.set
theorem PredR.ext {W W' : World} {v : Value} {p : List C} (h : PredR W v p) (hx : Ext W W') : PredR W' v p := by
  obtain ⟨us, h1, h2, h3⟩ := h
  exact ⟨us, h1, h2.ext hx, fun x hm => (h3 x hm).ext hx⟩
theorem PredR.nil (W : World) : PredR W (.slice none 0 0) [] := ⟨[], rfl, Row.nil W 7, fun _ h => by cases h⟩
theorem PredR.shape {W : World} {v : Value} {p : List C} (h : PredR W v p) : ∃ a cap, v = .slice a p.length cap ∧ p.length ≤ cap ∧ cap ≤ maxLen := by
  obtain ⟨us, rfl, h2, _⟩ := h
  obtain ⟨a, cap, e, h3, h4⟩ := Row.shape h2
  exact ⟨a, cap, by rw [e, List.length_map], by rw [List.length_map]; exact h3, h4⟩
theorem PredR.at {W : World} {a : Option Addr} {n cap : Nat} {p : List C} (h : PredR W (.slice a n cap) p) {k : Nat} (hk : k < p.length) :
    ∃ B o sa sc, a = some ⟨B, o, none⟩ ∧ W.cell? ⟨B, o + k * 7, none⟩ = some (.string (strOf p[k].name)) ∧ W.cell? ⟨B, o + k * 7 + 1, none⟩ = some (.int .i64 p[k].op) ∧ W.cell? ⟨B, o + k * 7 + 2, none⟩ = some (.int .i64 p[k].v.k) ∧ W.cell? ⟨B, o + k * 7 + 3, none⟩ = some (.int .i64 p[k].v.n) ∧
      W.cell? ⟨B, o + k * 7 + 4, none⟩ = some (.string (strOf p[k].v.s)) ∧ W.cell? ⟨B, o + k * 7 + 5, none⟩ = some (.bool p[k].v.b) ∧ W.cell? ⟨B, o + k * 7 + 6, none⟩ = some (.slice sa p[k].set.length sc) ∧ SetR W (.slice sa p[k].set.length sc) p[k].set := by
  obtain ⟨us, rfl, h2, h3⟩ := h
  have hk' : k < us.length := by simpa using hk
  obtain ⟨B, o, rfl⟩ := Row.base h2 (by omega) (by decide)
  have g := fun j hj => flat_get csC 7 csC_len us k hk' j hj
  have e : (us.map CS.c)[k] = us[k].c := by simp
  have hs := h3 us[k] (List.getElem_mem hk')
  obtain ⟨sa, sc, es, _, _⟩ := Row.shape hs
  rw [e]
  have g6 := Row.cellAt h2 (g 6 (by decide)) (by omega)
  rw [es] at hs
  refine ⟨B, o, sa, sc, rfl, Row.cellAt h2 (g 0 (by decide)) (by omega), Row.cellAt h2 (g 1 (by decide)) (by omega), Row.cellAt h2 (g 2 (by decide)) (by omega), Row.cellAt h2 (g 3 (by decide)) (by omega), Row.cellAt h2 (g 4 (by decide)) (by omega), Row.cellAt h2 (g 5 (by decide)) (by omega), ?_, hs⟩
  rw [← es]; exact g6
theorem PredR.mk {W : World} {v : Value} (us : List CS) (h : Row W 7 v us.length (us.flatMap csC)) (hs : ∀ x ∈ us, SetR W x.h x.c.set) : PredR W v (us.map CS.c) := ⟨us, rfl, h, hs⟩

def aC (x : List UInt8 × V) : List Value := [.string (strOf x.1), .int .i64 x.2.k, .int .i64 x.2.n, .string (strOf x.2.s), .bool x.2.b]
theorem aC_len (x : List UInt8 × V) : (aC x).length = 5 := rfl
def AttrR (W : World) (v : Value) (l : List (List UInt8 × V)) : Prop := Row W 5 v l.length (l.flatMap aC)
theorem AttrR.ext {W W' : World} {v : Value} {l : List (List UInt8 × V)} (h : AttrR W v l) (hx : Ext W W') : AttrR W' v l := Row.ext h hx
theorem AttrR.nil (W : World) : AttrR W (.slice none 0 0) [] := Row.nil W 5
theorem AttrR.at {W : World} {a : Option Addr} {n cap : Nat} {l : List (List UInt8 × V)} (h : AttrR W (.slice a n cap) l) {k : Nat} (hk : k < l.length) :
    ∃ B o, a = some ⟨B, o, none⟩ ∧ W.cell? ⟨B, o + k * 5, none⟩ = some (.string (strOf l[k].1)) ∧ W.cell? ⟨B, o + k * 5 + 1, none⟩ = some (.int .i64 l[k].2.k) ∧ W.cell? ⟨B, o + k * 5 + 2, none⟩ = some (.int .i64 l[k].2.n) ∧ W.cell? ⟨B, o + k * 5 + 3, none⟩ = some (.string (strOf l[k].2.s)) ∧ W.cell? ⟨B, o + k * 5 + 4, none⟩ = some (.bool l[k].2.b) := by
  obtain ⟨B, o, rfl⟩ := Row.base h (by omega) (by decide)
  have g := fun j hj => flat_get aC 5 aC_len l k hk j hj
  exact ⟨B, o, rfl, Row.cellAt h (g 0 (by decide)) (by omega), Row.cellAt h (g 1 (by decide)) (by omega), Row.cellAt h (g 2 (by decide)) (by omega), Row.cellAt h (g 3 (by decide)) (by omega), Row.cellAt h (g 4 (by decide)) (by omega)⟩

end Go.Proofs.YtlhbpflcffjhmaaGreat

namespace Go.Proofs.YtlhbpflcffjhmaaGreat
open Go.RowKit Go.ChangeShapes Go.WideShapes Go.Deep

theorem own : ownKnob Tryz.prog.godebug = none := by kernel_rfl
theorem laidOut : laidOutB Tryz.prog = true := by kernel_rfl

def okN (n : Int) : Prop := -9223372036854775808 ≤ n ∧ n ≤ 9223372036854775807
structure okV (v : V) : Prop where
  k : okN v.k
  n : okN v.n
  s : v.s.length ≤ maxLen
structure okC (c : C) : Prop where
  name : c.name.length ≤ maxLen
  op : okN c.op
  v : okV c.v
  set : ∀ x ∈ c.set, okV x
structure okA (a : List UInt8 × V) : Prop where
  name : a.1.length ≤ maxLen
  v : okV a.2

theorem list_of {α : Type} {p : Nat → α → Prop} : ∀ n, (∀ i, i < n → ∃ x, p i x) → ∃ l : List α, l.length = n ∧ ∀ i (h : i < l.length), p i l[i]
  | 0, _ => ⟨[], rfl, fun i h => absurd h (Nat.not_lt_zero _)⟩
  | n + 1, h => by
    obtain ⟨l, hl, hp⟩ := list_of n fun i hi => h i (Nat.lt_succ_of_lt hi)
    obtain ⟨x, hx⟩ := h n (Nat.lt_succ_self n)
    refine ⟨l ++ [x], by simp [hl], fun i hi => ?_⟩
    rw [List.length_append, List.length_singleton] at hi
    by_cases h' : i < l.length
    · rw [List.getElem_append_left h']; exact hp i h'
    · have e : i = l.length := by omega
      subst e
      rw [List.getElem_append_right (Nat.le_refl _)]
      simp only [Nat.sub_self, List.getElem_cons_zero, hl]
      exact hx

theorem row_of_cells {α : Type} {W : World} {a : Addr} {len cap base : Nat} (f : α → List Value) (sz : Nat) (hf : ∀ x, (f x).length = sz) (hsz : 0 < sz) (hl : len ≤ cap) (hm : cap ≤ maxLen) (l : List α) (hln : l.length = cap)
    (hc : ∀ i (h : i < l.length), W.cells? base (a.add (i * sz)) sz = some (f l[i])) : Row W sz (.slice (some a) len cap) len ((l.take len).flatMap f) := by
  have hat : ∀ i (h : i < l.length) j, j < sz → W.cell? (a.add (i * sz + j)) = (f l[i])[j]? := fun i h j hj => by
    obtain ⟨_, _, h3⟩ := World.cells?_some (hc i h)
    rw [← h3 j hj, Go.Deep.add_add]
  have hspot : 0 < cap → a.spot = none := fun h => by
    have h1 := hat 0 (by omega) 0 hsz
    rw [List.getElem?_eq_getElem (by rw [hf]; exact hsz)] at h1
    simpa [Addr.add] using World.cell?_spot h1
  refine ⟨by rw [flat_len f sz hf, List.length_take]; rw [Nat.min_eq_left (by omega)], some a, cap, rfl, hl, hm, by simp, fun p hp h0 => by simp at hp; subst hp; exact hspot h0, fun j u hj => ⟨a, rfl, ?_⟩⟩
  have hjl : j < ((l.take len).flatMap f).length := by
    rcases Nat.lt_or_ge j ((l.take len).flatMap f).length with h | h
    · exact h
    · rw [List.getElem?_eq_none h] at hj; cases hj
  rw [flat_len f sz hf, List.length_take, Nat.min_eq_left (by omega)] at hjl
  have hd : j / sz < len := by rw [Nat.div_lt_iff_lt_mul hsz]; exact hjl
  have hmod : j % sz < sz := Nat.mod_lt _ hsz
  have e : j / sz * sz + j % sz = j := by rw [Nat.mul_comm]; exact Nat.div_add_mod j sz
  have hg := flat_get f sz hf (l.take len) (j / sz) (by rw [List.length_take]; omega) (j % sz) hmod
  rw [e, hj] at hg
  have h1 := hat (j / sz) (by omega) (j % sz) hmod
  rw [e] at h1
  rw [List.getElem_take] at hg
  rw [← hg] at h1
  have hps := hspot (Nat.lt_of_lt_of_le (Nat.lt_of_le_of_lt (Nat.zero_le _) hd) hl)
  have hadd : a.add j = ⟨a.block, a.off + j, none⟩ := by
    obtain ⟨xb, xo, xs⟩ := a
    simp only at hps; subst hps
    unfold Addr.add; split <;> simp_all
  rw [← hadd]; exact h1

section
variable {H : Type} {enc : TypeId × Value → H} {W : World} {base : Nat} {held : Bool}

theorem strOf_of (s : ByteArray) : strOf s.data.toList = s := by cases s; rfl
theorem str_len (s : ByteArray) : s.data.toList.length = s.size := by cases s; exact Array.length_toList
theorem i64_ok {n : Int} (h : (Lit.int .i64 n).wf = true) : okN n := by
  have := bounds_i64 h
  unfold okN; omega

set_option maxRecDepth 100000 in
theorem open_vals {fuel : Nat} {cs : List Value} {x : DataW H × List MemPlace} (h : DataW.trod enc Tryz.prog W base (fun _ => true) held fuel 61 cs = some x) : ∃ v : V, cs = vC v ∧ okV v := by
  obtain ⟨xs, n, _, _, hl, hx, hf⟩ := DataW.trod_struct Tryz.underlying61 h
  have hC : Tryz.prog.cellsOf 61 = 4 := by kernel_rfl
  rw [hC] at hl
  match cs, hl with
  | [c0, c1, c2, c3], _ =>
    match xs, hx with
    | [y0, y1, y2, y3], _ =>
      have q3 : Tryz.prog.cellsOf 3 = 1 := by kernel_rfl
      have q2 : Tryz.prog.cellsOf 2 = 1 := by kernel_rfl
      have q9 : Tryz.prog.cellsOf 9 = 1 := by kernel_rfl
      have q4 : Tryz.prog.cellsOf 4 = 1 := by kernel_rfl
      have h0 := hf 0 _ rfl
      have h1 := hf 1 _ rfl
      have h2 := hf 2 _ rfl
      have h3 := hf 3 _ rfl
      simp only [q3, q2, q9, q4, List.getElem_toArray, List.getElem_cons_zero, List.getElem_cons_succ, List.getElem?_cons_zero, List.getElem?_cons_succ, List.drop_zero, List.drop_succ_cons, List.take_succ_cons, List.take_zero] at h0 h1 h2 h3
      obtain ⟨k, e0, _, w0⟩ := DataW.trod_int Tryz.underlying3 h0
      obtain ⟨n, e1, _, w1⟩ := DataW.trod_int Tryz.underlying2 h1
      obtain ⟨s, e2, _, w2⟩ := DataW.trod_string Tryz.underlying9 h2
      obtain ⟨b, e3, _⟩ := DataW.trod_bool Tryz.underlying4 h3
      simp only [List.cons.injEq, and_true] at e0 e1 e2 e3
      subst e0; subst e1; subst e2; subst e3
      refine ⟨⟨k, n, s.data.toList, b⟩, ?_, i64_ok w0, i64_ok w1, by rw [str_len]; exact w2⟩
      unfold vC; rw [strOf_of]

set_option maxRecDepth 100000 in
theorem open_set {fuel : Nat} {h : Value} {x : DataW H × List MemPlace} (ht : DataW.trod enc Tryz.prog W base (fun _ => true) held fuel 62 [h] = some x) : ∃ l : List V, SetR W h l ∧ ∀ v ∈ l, okV v := by
  rcases open_slice Tryz.underlying62 ht with ⟨e, _⟩ | ⟨a, len, cap, m, n, D, Pl, e, _, hl, hm, hmm, _, hi⟩
  · simp only [List.cons.injEq, and_true] at e
    subst e
    exact ⟨[], SetR.nil W, fun _ h => by cases h⟩
  · simp only [List.cons.injEq, and_true] at e
    subst e
    simp only [if_true] at hmm
    subst hmm
    have hC : Tryz.prog.cellsOf 61 = 4 := by kernel_rfl
    rw [hC] at hi
    obtain ⟨l, hln, hp⟩ := list_of (p := fun i (v : V) => W.cells? base (a.add (i * 4)) 4 = some (vC v) ∧ okV v) m fun i hi' => by
      obtain ⟨cs, h1, h2⟩ := hi i hi'
      obtain ⟨v, rfl, hv⟩ := open_vals h2
      exact ⟨v, h1, hv⟩
    have hr := row_of_cells vC 4 vC_len (by decide) hl hm l hln fun i hi => (hp i hi).1
    refine ⟨l.take len, ?_, fun v hv => ?_⟩
    · unfold SetR
      have e : (l.take len).length = len := by rw [List.length_take]; omega
      rw [e]; exact hr
    · obtain ⟨i, hi, rfl⟩ := List.getElem_of_mem (List.mem_of_mem_take hv)
      exact (hp i hi).2

set_option maxRecDepth 100000 in
theorem open_cons {fuel : Nat} {cs : List Value} {x : DataW H × List MemPlace} (h : DataW.trod enc Tryz.prog W base (fun _ => true) held fuel 64 cs = some x) : ∃ c : CS, cs = csC c ∧ SetR W c.h c.c.set ∧ okC c.c := by
  obtain ⟨xs, n, _, _, hl, hx, hf⟩ := DataW.trod_struct Tryz.underlying64 h
  have hC : Tryz.prog.cellsOf 64 = 7 := by kernel_rfl
  rw [hC] at hl
  match cs, hl with
  | [c0, c1, c2, c3, c4, c5, c6], _ =>
    match xs, hx with
    | [y0, y1, y2, y3], _ =>
      have q3 : Tryz.prog.cellsOf 3 = 1 := by kernel_rfl
      have q9 : Tryz.prog.cellsOf 9 = 1 := by kernel_rfl
      have q28 : Tryz.prog.cellsOf 61 = 4 := by kernel_rfl
      have q29 : Tryz.prog.cellsOf 62 = 1 := by kernel_rfl
      have h0 := hf 0 _ rfl
      have h1 := hf 1 _ rfl
      have h2 := hf 2 _ rfl
      have h3 := hf 3 _ rfl
      simp only [q3, q9, q28, q29, List.getElem_toArray, List.getElem_cons_zero, List.getElem_cons_succ, List.getElem?_cons_zero, List.getElem?_cons_succ, List.drop_zero, List.drop_succ_cons, List.take_succ_cons, List.take_zero] at h0 h1 h2 h3
      obtain ⟨s, e0, _, w0⟩ := DataW.trod_string Tryz.underlying9 h0
      obtain ⟨k, e1, _, w1⟩ := DataW.trod_int Tryz.underlying3 h1
      obtain ⟨v, e2, w2⟩ := open_vals h2
      obtain ⟨l, e3, w3⟩ := open_set h3
      simp only [vC, List.cons.injEq, and_true] at e0 e1 e2
      obtain ⟨rfl, rfl, rfl, rfl⟩ := e2
      subst e0; subst e1
      refine ⟨⟨⟨s.data.toList, k, v, l⟩, c6⟩, ?_, e3, ⟨by rw [str_len]; exact w0, i64_ok w1, w2, w3⟩⟩
      unfold csC; rw [strOf_of]

set_option maxRecDepth 100000 in
theorem open_pred {fuel : Nat} {h : Value} {x : DataW H × List MemPlace} (ht : DataW.trod enc Tryz.prog W base (fun _ => true) held fuel 25 [h] = some x) : ∃ p : List C, PredR W h p ∧ ∀ c ∈ p, okC c := by
  rcases open_slice Tryz.underlying25 ht with ⟨e, _⟩ | ⟨a, len, cap, m, n, D, Pl, e, _, hl, hm, hmm, _, hi⟩
  · simp only [List.cons.injEq, and_true] at e
    subst e
    exact ⟨[], PredR.nil W, fun _ h => by cases h⟩
  · simp only [List.cons.injEq, and_true] at e
    subst e
    simp only [if_true] at hmm
    subst hmm
    have hC : Tryz.prog.cellsOf 64 = 7 := by kernel_rfl
    rw [hC] at hi
    obtain ⟨l, hln, hp⟩ := list_of (p := fun i (c : CS) => W.cells? base (a.add (i * 7)) 7 = some (csC c) ∧ SetR W c.h c.c.set ∧ okC c.c) m fun i hi' => by
      obtain ⟨cs, h1, h2⟩ := hi i hi'
      obtain ⟨v, rfl, hv⟩ := open_cons h2
      exact ⟨v, h1, hv⟩
    have hr := row_of_cells csC 7 csC_len (by decide) hl hm l hln fun i hi => (hp i hi).1
    have e : (l.take len).length = len := by rw [List.length_take]; omega
    have hall : ∀ x ∈ l.take len, SetR W x.h x.c.set ∧ okC x.c := fun x hx => by
      obtain ⟨i, hi, rfl⟩ := List.getElem_of_mem (List.mem_of_mem_take hx)
      exact (hp i hi).2
    refine ⟨(l.take len).map CS.c, PredR.mk _ (by rw [e]; exact hr) fun x hx => (hall x hx).1, fun c hc => ?_⟩
    obtain ⟨x, hx, rfl⟩ := List.mem_map.1 hc
    exact (hall x hx).2

set_option maxRecDepth 100000 in
theorem open_attr {fuel : Nat} {cs : List Value} {x : DataW H × List MemPlace} (h : DataW.trod enc Tryz.prog W base (fun _ => true) held fuel 167 cs = some x) : ∃ a : List UInt8 × V, cs = aC a ∧ okA a := by
  obtain ⟨xs, n, _, _, hl, hx, hf⟩ := DataW.trod_struct Tryz.underlying167 h
  have hC : Tryz.prog.cellsOf 167 = 5 := by kernel_rfl
  rw [hC] at hl
  match cs, hl with
  | [c0, c1, c2, c3, c4], _ =>
    match xs, hx with
    | [y0, y1], _ =>
      have q9 : Tryz.prog.cellsOf 9 = 1 := by kernel_rfl
      have q28 : Tryz.prog.cellsOf 61 = 4 := by kernel_rfl
      have h0 := hf 0 _ rfl
      have h1 := hf 1 _ rfl
      simp only [q9, q28, List.getElem_toArray, List.getElem_cons_zero, List.getElem_cons_succ, List.getElem?_cons_zero, List.getElem?_cons_succ, List.drop_zero, List.drop_succ_cons, List.take_succ_cons, List.take_zero] at h0 h1
      obtain ⟨s, e0, _, w0⟩ := DataW.trod_string Tryz.underlying9 h0
      obtain ⟨v, e1, w1⟩ := open_vals h1
      simp only [vC, List.cons.injEq, and_true] at e0 e1
      obtain ⟨rfl, rfl, rfl, rfl⟩ := e1
      subst e0
      refine ⟨(s.data.toList, v), ?_, by rw [str_len]; exact w0, w1⟩
      unfold aC; rw [strOf_of]

set_option maxRecDepth 100000 in
theorem open_attrs {fuel : Nat} {h : Value} {x : DataW H × List MemPlace} (ht : DataW.trod enc Tryz.prog W base (fun _ => true) held fuel 50 [h] = some x) : ∃ l : List (List UInt8 × V), AttrR W h l ∧ ∀ a ∈ l, okA a := by
  rcases open_slice Tryz.underlying50 ht with ⟨e, _⟩ | ⟨a, len, cap, m, n, D, Pl, e, _, hl, hm, hmm, _, hi⟩
  · simp only [List.cons.injEq, and_true] at e
    subst e
    exact ⟨[], AttrR.nil W, fun _ h => by cases h⟩
  · simp only [List.cons.injEq, and_true] at e
    subst e
    simp only [if_true] at hmm
    subst hmm
    have hC : Tryz.prog.cellsOf 167 = 5 := by kernel_rfl
    rw [hC] at hi
    obtain ⟨l, hln, hp⟩ := list_of (p := fun i (v : List UInt8 × V) => W.cells? base (a.add (i * 5)) 5 = some (aC v) ∧ okA v) m fun i hi' => by
      obtain ⟨cs, h1, h2⟩ := hi i hi'
      obtain ⟨v, rfl, hv⟩ := open_attr h2
      exact ⟨v, h1, hv⟩
    have hr := row_of_cells aC 5 aC_len (by decide) hl hm l hln fun i hi => (hp i hi).1
    refine ⟨l.take len, ?_, fun v hv => ?_⟩
    · unfold AttrR
      have e : (l.take len).length = len := by rw [List.length_take]; omega
      rw [e]; exact hr
    · obtain ⟨i, hi, rfl⟩ := List.getElem_of_mem (List.mem_of_mem_take hv)
      exact (hp i hi).2

set_option maxRecDepth 100000 in
theorem open_event {fuel : Nat} {cs : List Value} {x : DataW H × List MemPlace} (h : DataW.trod enc Tryz.prog W base (fun _ => true) held fuel 52 cs = some x) : ∃ (key : List UInt8) (va : Value) (l : List (List UInt8 × V)), cs = [.string (strOf key), va] ∧ AttrR W va l ∧ key.length ≤ maxLen ∧ ∀ a ∈ l, okA a := by
  obtain ⟨xs, n, _, _, hl, hx, hf⟩ := DataW.trod_struct Tryz.underlying52 h
  have hC : Tryz.prog.cellsOf 52 = 2 := by kernel_rfl
  rw [hC] at hl
  match cs, hl with
  | [c0, c1], _ =>
    match xs, hx with
    | [y0, y1], _ =>
      have q9 : Tryz.prog.cellsOf 9 = 1 := by kernel_rfl
      have q24 : Tryz.prog.cellsOf 50 = 1 := by kernel_rfl
      have h0 := hf 0 _ rfl
      have h1 := hf 1 _ rfl
      simp only [q9, q24, List.getElem_toArray, List.getElem_cons_zero, List.getElem_cons_succ, List.getElem?_cons_zero, List.getElem?_cons_succ, List.drop_zero, List.drop_succ_cons, List.take_succ_cons, List.take_zero] at h0 h1
      obtain ⟨s, e0, _, w0⟩ := DataW.trod_string Tryz.underlying9 h0
      obtain ⟨l, e1, w1⟩ := open_attrs h1
      simp only [List.cons.injEq, and_true] at e0
      subst e0
      refine ⟨s.data.toList, c1, l, ?_, e1, by rw [str_len]; exact w0, w1⟩
      rw [strOf_of]

/-! The same, of an argument. -/
set_option maxRecDepth 100000 in
theorem arg_pred {b0 : Nat} {v : Value} {d : DataW H} {p : List MemPlace} (hv : Value.okWide Tryz.prog W .any b0 25 v) (h : DataW.Trod enc Tryz.prog W base (fun _ => true) held 25 v d p) : ∃ p : List C, PredR W v p ∧ ∀ c ∈ p, okC c := by
  obtain ⟨a, len, cap, rfl⟩ := okWide_slice Tryz.underlying25 hv
  obtain ⟨fuel, hf⟩ := h
  exact open_pred hf
set_option maxRecDepth 100000 in
theorem arg_value {b0 : Nat} {v : Value} {d : DataW H} {p : List MemPlace} (hv : Value.okWide Tryz.prog W .any b0 61 v) (h : DataW.Trod enc Tryz.prog W base (fun _ => true) held 61 v d p) : ∃ x : V, v = .agg #[.int .i64 x.k, .int .i64 x.n, .string (strOf x.s), .bool x.b] ∧ okV x := by
  obtain ⟨cs, rfl, hsz⟩ := okWide_struct Tryz.underlying61 hv
  obtain ⟨fuel, hf⟩ := h
  obtain ⟨x, e, hx⟩ := open_vals hf
  refine ⟨x, ?_, hx⟩
  obtain ⟨l⟩ := cs
  simp only [Value.cells] at e
  subst e; rfl
set_option maxRecDepth 100000 in
theorem arg_event {b0 : Nat} {v : Value} {d : DataW H} {p : List MemPlace} (hv : Value.okWide Tryz.prog W .any b0 52 v) (h : DataW.Trod enc Tryz.prog W base (fun _ => true) held 52 v d p) : ∃ (key : List UInt8) (va : Value) (l : List (List UInt8 × V)), v = .agg #[.string (strOf key), va] ∧ AttrR W va l ∧ key.length ≤ maxLen ∧ ∀ a ∈ l, okA a := by
  obtain ⟨cs, rfl, hsz⟩ := okWide_struct Tryz.underlying52 hv
  obtain ⟨fuel, hf⟩ := h
  obtain ⟨key, va, l, e, h1, h2, h3⟩ := open_event hf
  refine ⟨key, va, l, ?_, h1, h2, h3⟩
  obtain ⟨l⟩ := cs
  simp only [Value.cells] at e
  subst e; rfl
set_option maxRecDepth 100000 in
theorem arg_name {b0 : Nat} {v : Value} {d : DataW H} {p : List MemPlace} (hv : Value.okWide Tryz.prog W .any b0 9 v) (h : DataW.Trod enc Tryz.prog W base (fun _ => true) held 9 v d p) : ∃ s : List UInt8, v = .string (strOf s) ∧ s.length ≤ maxLen := by
  obtain ⟨fuel, hf⟩ := h
  obtain ⟨s, e, _, hs⟩ := DataW.trod_string Tryz.underlying9 hf
  cases v with
  | agg cs => simp [Value.okWide, Cell.okWide, Cell.ok, Tryz.underlying9] at hv
  | string t =>
    simp only [Value.cells, List.cons.injEq, Value.string.injEq, and_true] at e
    subst e
    exact ⟨t.data.toList, by rw [strOf_of], by rw [str_len]; exact hs⟩
  | _ => simp [Value.cells] at e
end
end Go.Proofs.YtlhbpflcffjhmaaGreat

namespace Go.Proofs
open Go.Shelf
def Tryz.lays106_ren : Go.Shelf.Ren := ⟨fun | 106 => 72 | 213 => 114 | 265 => 158 | n => n, fun | 9 => 9 | 3 => 3 | n => n, fun | n => n⟩
theorem Tryz.lays106 : Go.Proofs.Lays.n106 Tryz.prog Tryz.lays106_ren := {
  mixed := by kernel_rfl
  f106 := Tryz.func72.trans (congrArg some (by kernel_rfl))
  f213 := Tryz.func114.trans (congrArg some (by kernel_rfl))
  f265 := Tryz.func158.trans (congrArg some (by kernel_rfl))
  t3 := Tryz.underlying3
  a3 := Tryz.isAgg3
  z3 := Tryz.sizeOf3
  v3 := Tryz.zeroValue3
  t9 := Tryz.underlying9
  a9 := Tryz.isAgg9
  z9 := Tryz.sizeOf9
  v9 := Tryz.zeroValue9 }
open Go.RowKit in
/-- strings.Compare: "Compare returns an integer comparing two strings lexicographically. The result will be 0 if a == b, -1 if a < b, and +1 if a > b.": IT RETURNS 'Lib.compareBytes a b'; the world is as it was. (LAID: no walk: one application.) -/
theorem Tryz.strings_Compare (a b : ByteArray) (w : World) :
    Calls Tryz.prog 72 #[.string a, .string b] w fun e w' => e = .returned (.int .i64 (Lib.compareBytes a.data.toList b.data.toList)) ∧ w' = w := Any.strings_Compare Tryz.lays106 a b w
def Tryz.lays99_ren : Go.Shelf.Ren := ⟨fun | 99 => 189 | 206 => 226 | n => n, fun | 9 => 9 | 4 => 4 | 3 => 3 | n => n, fun | n => n⟩
theorem Tryz.lays99 : Go.Proofs.Lays.n99 Tryz.prog Tryz.lays99_ren := {
  mixed := by kernel_rfl
  f99 := Tryz.func189.trans (congrArg some (by kernel_rfl))
  f206 := Tryz.func226.trans (congrArg some (by kernel_rfl))
  t3 := Tryz.underlying3
  a3 := Tryz.isAgg3
  z3 := Tryz.sizeOf3
  v3 := Tryz.zeroValue3
  t4 := Tryz.underlying4
  a4 := Tryz.isAgg4
  z4 := Tryz.sizeOf4
  v4 := Tryz.zeroValue4
  t9 := Tryz.underlying9
  a9 := Tryz.isAgg9
  z9 := Tryz.sizeOf9
  v9 := Tryz.zeroValue9 }
open Go.RowKit Go.Lib in
/-- strings.HasPrefix: "HasPrefix reports whether the string s begins with prefix.": IT RETURNS 'Lib.hasPrefix s prefix'; the world is as it was. (LAID: no walk: one application.) -/
theorem Tryz.strings_HasPrefix (s p : ByteArray) (w : World) :
    Calls Tryz.prog 189 #[.string s, .string p] w fun e w' => e = .returned (.bool (Lib.hasPrefix s.data.toList p.data.toList)) ∧ w' = w := Any.strings_HasPrefix Tryz.lays99 s p w
end Go.Proofs

namespace Go.Proofs.YtlhbpflcffjhmaaGreat
open Go.RowKit

theorem cmpint_any (a b : Int) (w : World) : Calls Tryz.prog 73 #[.int .i64 a, .int .i64 b] w fun e w' => e = .returned (.int .i64 (Lib.compareInt a b)) ∧ w = w' := by
  rcases Int.lt_trichotomy a b with h | h | h
  · have e : Lib.compareInt a b = -1 := by unfold Lib.compareInt; rw [if_pos h]
    rw [e]
    have hd : decide (a < b) = true := decide_eq_true h
    clear e
    go_enter Tryz.func73, Tryz.ntmps73
    go_wp2
    go_ret
    exact ⟨rfl, rfl⟩
  · subst h
    have e : Lib.compareInt a a = 0 := wo_int.refl a
    rw [e]
    clear e
    go_enter Tryz.func73, Tryz.ntmps73
    go_wp2
    go_ret
    exact ⟨rfl, rfl⟩
  · have e : Lib.compareInt a b = 1 := by unfold Lib.compareInt; rw [if_neg (by omega), if_pos h]
    rw [e]
    have hd : decide (a < b) = false := decide_eq_false (by omega)
    have hd2 : decide (b < a) = true := decide_eq_true h
    clear e
    go_enter Tryz.func73, Tryz.ntmps73
    go_wp2
    go_ret
    exact ⟨rfl, rfl⟩
theorem cmpint64_any (a b : Int) (w : World) : Calls Tryz.prog 107 #[.int .i64 a, .int .i64 b] w fun e w' => e = .returned (.int .i64 (Lib.compareInt a b)) ∧ w = w' := by
  rcases Int.lt_trichotomy a b with h | h | h
  · have e : Lib.compareInt a b = -1 := by unfold Lib.compareInt; rw [if_pos h]
    rw [e]
    have hd : decide (a < b) = true := decide_eq_true h
    clear e
    go_enter Tryz.func107, Tryz.ntmps107
    go_wp2
    go_ret
    exact ⟨rfl, rfl⟩
  · subst h
    have e : Lib.compareInt a a = 0 := wo_int.refl a
    rw [e]
    clear e
    go_enter Tryz.func107, Tryz.ntmps107
    go_wp2
    go_ret
    exact ⟨rfl, rfl⟩
  · have e : Lib.compareInt a b = 1 := by unfold Lib.compareInt; rw [if_neg (by omega), if_pos h]
    rw [e]
    have hd : decide (a < b) = false := decide_eq_false (by omega)
    have hd2 : decide (b < a) = true := decide_eq_true h
    clear e
    go_enter Tryz.func107, Tryz.ntmps107
    go_wp2
    go_ret
    exact ⟨rfl, rfl⟩
theorem cmpstr_any (a b : List UInt8) (w : World) : Calls Tryz.prog 72 #[.string (strOf a), .string (strOf b)] w fun e w' => e = .returned (.int .i64 (Lib.compareBytes a b)) ∧ w = w' :=
  (Tryz.strings_Compare (strOf a) (strOf b) w).mono fun _ _ ⟨he, hw⟩ => ⟨he, hw.symm⟩

/-- The test of two numbers sa the walk spells it. -/
theorem beq_int_ne {a b : Int} (h : a ≠ b) : (a == b) = false := beq_eq_false_iff_ne.2 h

theorem rank_any (b : Bool) (w : World) : Calls Tryz.prog 108 #[.bool b] w fun e w' => e = .returned (.int .i64 (rankB b)) ∧ w' = w := by
  cases b
  all_goals
    go_enter Tryz.func108, Tryz.ntmps108
    go_wp2
    go_ret
    exact ⟨rfl, rfl⟩
theorem cmpint_back (a b : Int) (w : World) : Calls Tryz.prog 73 #[.int .i64 a, .int .i64 b] w fun e w' => e = .returned (.int .i64 (Lib.compareInt a b)) ∧ w' = w :=
  (cmpint_any a b w).mono fun _ _ ⟨h1, h2⟩ => ⟨h1, h2.symm⟩
theorem ta22 (v : Value) (w : World) : (Instr.typeAssert (.iface 2 v) 20 2 true).run Tryz.prog w = .ok (.tuple #[v, .bool true]) w := by kernel_rfl
theorem ta92 (v : Value) (w : World) : (Instr.typeAssert (.iface 9 v) 20 2 true).run Tryz.prog w = .ok (.tuple #[.int .i64 0, .bool false]) w := by kernel_rfl
theorem ta99 (v : Value) (w : World) : (Instr.typeAssert (.iface 9 v) 20 9 true).run Tryz.prog w = .ok (.tuple #[v, .bool true]) w := by kernel_rfl
theorem ta42 (v : Value) (w : World) : (Instr.typeAssert (.iface 4 v) 20 2 true).run Tryz.prog w = .ok (.tuple #[.int .i64 0, .bool false]) w := by kernel_rfl
theorem ta49 (v : Value) (w : World) : (Instr.typeAssert (.iface 4 v) 20 9 true).run Tryz.prog w = .ok (.tuple #[.string ⟨#[]⟩, .bool false]) w := by kernel_rfl
theorem ta44 (v : Value) (w : World) : (Instr.typeAssert (.iface 4 v) 20 4 true).run Tryz.prog w = .ok (.tuple #[v, .bool true]) w := by kernel_rfl
theorem ta02 (w : World) : (Instr.typeAssert .nilIface 20 2 true).run Tryz.prog w = .ok (.tuple #[.int .i64 0, .bool false]) w := by kernel_rfl
theorem ta09 (w : World) : (Instr.typeAssert .nilIface 20 9 true).run Tryz.prog w = .ok (.tuple #[.string ⟨#[]⟩, .bool false]) w := by kernel_rfl
theorem ta04 (w : World) : (Instr.typeAssert .nilIface 20 4 true).run Tryz.prog w = .ok (.tuple #[.bool false, .bool false]) w := by kernel_rfl

set_option maxRecDepth 100000 in
set_option maxHeartbeats 2000000 in
theorem compare_any (w : World) (ak an bk bn : Int) (sa sb : List UInt8) (ab bb : Bool) :
    Calls Tryz.prog 61 #[.agg #[.int .i64 ak, .int .i64 an, .string (strOf sa), .bool ab], .agg #[.int .i64 bk, .int .i64 bn, .string (strOf sb), .bool bb]] w
      fun e w' => e = .returned (.int .i64 (cmpV ⟨ak, an, sa, ab⟩ ⟨bk, bn, sb, bb⟩)) ∧ Grew w w' := by
  by_cases hk : ak = bk
  · subst hk
    by_cases h1 : ak = 1
    · subst h1
      have e : cmpV ⟨1, an, sa, ab⟩ ⟨1, bn, sb, bb⟩ = Lib.compareInt an bn := rfl
      rw [e]
      have t1 := ta22
      clear e
      go_enter Tryz.func61, Tryz.ntmps61
      go_wp2_with (first | (go_at_call 107; refine (cmpint64_any _ _ _).mono ?_; rintro e w' ⟨rfl, rfl⟩) | go_in)
      go_ret
      exact ⟨rfl, (((Grew.refl w).alloc _).alloc _).alloc _⟩
    · have d1 := beq_int_ne h1
      by_cases h2 : ak = 2
      · subst h2
        have e : cmpV ⟨2, an, sa, ab⟩ ⟨2, bn, sb, bb⟩ = Lib.compareBytes sa sb := rfl
        rw [e]
        have t1 := ta92
        have t2 := ta99
        clear e d1 h1
        go_enter Tryz.func61, Tryz.ntmps61
        go_wp2_with (first | (go_at_call 72; refine (cmpstr_any _ _ _).mono ?_; rintro e w' ⟨rfl, rfl⟩) | go_in)
        go_ret
        exact ⟨rfl, (((Grew.refl w).alloc _).alloc _).alloc _⟩
      · have d2 := beq_int_ne h2
        by_cases h3 : ak = 3
        · subst h3
          have e : cmpV ⟨3, an, sa, ab⟩ ⟨3, bn, sb, bb⟩ = cmpB ab bb := rfl
          rw [e]
          have t1 := ta42
          have t2 := ta49
          have t3 := ta44
          clear e d1 h1 d2 h2
          cases ab <;> cases bb
          all_goals
            go_enter Tryz.func61, Tryz.ntmps61
            go_upto_region 12 with go_in
            go_quiet (first | (go_at_call 108; exact Calls.quiet_of_same (rank_any _ _)) | (go_at_call 73; exact Calls.quiet_of_same (cmpint_back _ _ _)))
            go_wp2
            go_ret
            exact ⟨rfl, ((((Grew.refl w).alloc _).alloc _).alloc _).drewN _⟩
        · have d3 := beq_int_ne h3
          have e : cmpV ⟨ak, an, sa, ab⟩ ⟨ak, bn, sb, bb⟩ = 0 := by unfold cmpV; rw [if_pos rfl, if_neg h1, if_neg h2, if_neg h3]
          rw [e]
          have t1 := ta02
          have t2 := ta09
          have t3 := ta04
          clear e h1 h2 h3
          go_enter Tryz.func61, Tryz.ntmps61
          go_wp2_with go_in
          go_ret
          exact ⟨rfl, (((Grew.refl w).alloc _).alloc _).alloc _⟩
  · have e : cmpV ⟨ak, an, sa, ab⟩ ⟨bk, bn, sb, bb⟩ = Lib.compareInt ak bk := by unfold cmpV; rw [if_neg hk]
    rw [e]
    have d1 := beq_int_ne hk
    clear e hk
    go_enter Tryz.func61, Tryz.ntmps61
    go_wp2_with (first | (go_at_call 73; refine (cmpint_any _ _ _).mono ?_; rintro e w' ⟨rfl, rfl⟩) | go_in)
    go_ret
    exact ⟨rfl, ((Grew.refl w).alloc _).alloc _⟩

end Go.Proofs.YtlhbpflcffjhmaaGreat

namespace Go.Proofs.YtlhbpflcffjhmaaGreat
open Go.RowKit

/-- The first place at which p holds, or -1. -/
def idxP {α : Type} (p : α → Bool) (l : List α) : Int := match l.findIdx? p with | some i => (i : Int) | none => -1
theorem idxP_hit {α : Type} {p : α → Bool} {l : List α} {k : Nat} (hk : k < l.length) (h : ∀ x ∈ l.take k, p x = false) (e : p l[k] = true) : idxP p l = k := by
  have : l.findIdx? p = some k := by
    rw [List.findIdx?_eq_some_iff_getElem]
    refine ⟨hk, e, fun j hj => ?_⟩
    have := h l[j] (by rw [List.mem_take_iff_getElem]; exact ⟨j, by omega, rfl⟩)
    rw [this]; simp
  unfold idxP; rw [this]
theorem idxP_miss {α : Type} {p : α → Bool} {l : List α} (h : ∀ x ∈ l, p x = false) : idxP p l = -1 := by
  have : l.findIdx? p = none := by
    rw [List.findIdx?_eq_none_iff]
    exact h
  unfold idxP; rw [this]
theorem idxP_any {α : Type} (p : α → Bool) (l : List α) : decide (0 ≤ idxP p l) = l.any p := by
  unfold idxP
  cases h : l.findIdx? p with
  | none =>
    rw [List.findIdx?_eq_none_iff] at h
    have : l.any p = false := List.any_eq_false.2 fun x hx => by rw [h x hx]; simp
    rw [this]; rfl
  | some i =>
    rw [List.findIdx?_eq_some_iff_getElem] at h
    obtain ⟨hi, e, _⟩ := h
    have : l.any p = true := List.any_eq_true.2 ⟨_, List.getElem_mem hi, e⟩
    rw [this]
    exact decide_eq_true (by show (0 : Int) ≤ (i : Int); omega)
theorem idxP_get {α : Type} (p : α → Bool) (l : List α) : (idxP p l = -1 ∧ l.find? p = none) ∨ ∃ (i : Nat) (hi : i < l.length), idxP p l = i ∧ l.find? p = some l[i] := by
  unfold idxP
  cases h : l.findIdx? p with
  | none =>
    rw [List.findIdx?_eq_none_iff] at h
    exact .inl ⟨rfl, List.find?_eq_none.2 fun x hx => by rw [h x hx]; simp⟩
  | some i =>
    rw [List.findIdx?_eq_some_iff_getElem] at h
    obtain ⟨hi, e, hb⟩ := h
    refine .inr ⟨i, hi, rfl, ?_⟩
    rw [List.find?_eq_some_iff_getElem]
    exact ⟨e, i, hi, rfl, fun j hj => by simpa using hb j hj⟩

set_option maxRecDepth 100000 in
set_option maxHeartbeats 2000000 in
theorem idxA_any (w : World) (v : Value) (l : List (List UInt8 × V)) (h : AttrR w v l) (g : Nat) (cb : Array Value) (p : List UInt8 × V → Bool) (eg : ∀ args w, (callFunc g args).run Tryz.prog w = .ok (.enter g args) w)
    (hc : ∀ (W : World) (x : List UInt8 × V) , Ext w W → x ∈ l → Calls Tryz.prog g (#[.agg #[.string (strOf x.1), .int .i64 x.2.k, .int .i64 x.2.n, .string (strOf x.2.s), .bool x.2.b]] ++ cb) W fun e W' => e = .returned (.bool (p x)) ∧ Ext W W') :
    Calls Tryz.prog 135 #[v, .func (.func g) #[] cb] w fun e w' => e = .returned (.int .i64 (idxP p l)) ∧ Ext w w' := by
  obtain ⟨a, cap, rfl, hcc, hm⟩ := Row.shape h
  unfold maxLen at hm
  generalize hn : l.length = n at *
  have HN := Lib.hid hn
  clear hn
  have HC := Lib.hid hc
  clear hc
  go_enter Tryz.func135, Tryz.ntmps135
  go_wp2_with fail
  go_loopw [5, 8] (fun _ i wr => ∃ k : Nat, k ≤ n ∧ i = .int .i64 k ∧ Hid (∀ x ∈ l.take k, p x = false) ∧ Ext w wr) (fun _ i _ => n - (intOf i).toNat)
  case atStart => exact ⟨0, Nat.zero_le _, rfl, (by show ∀ x ∈ l.take 0, _; simp), Ext.refl w⟩
  case round =>
    obtain ⟨k, hk, rfl, hall, hx⟩ := hrel
    by_cases hlt : k < n
    · have k1 : k < l.length := by rw [HN.out]; exact hlt
      have hI : decide ((k : Int) < (n : Int)) = true := decide_eq_true (by omega)
      have hext := h.ext hx
      obtain ⟨B1, o1, rfl, f0, f1, f2, f3, f4⟩ := AttrR.at hext k1
      have hcall := HC.out _ l[k] hx (List.getElem_mem k1)
      have hhit : p l[k] = true → idxP p l = k := fun e => idxP_hit k1 hall.out e
      have hnext : p l[k] = false → ∀ x ∈ l.take (k + 1), p x = false := fun e x hx => by
        rw [List.take_succ_eq_append_getElem k1] at hx
        rcases List.mem_append.1 hx with hx | hx
        · exact hall.out x hx
        · rw [List.mem_singleton.1 hx]; exact e
      generalize l[k] = x at *
      have HCALL := Lib.hid hcall
      clear hcall
      cases hq : p x with
      | true =>
        have hres := Lib.hid (hhit hq)
        have HQ := Lib.hid hq
        clear hhit hnext hq
        go_wp2_with (go_at_fn g; refine HCALL.out.mono ?_; rw [HQ.out]; rintro e w2 ⟨rfl, hx2⟩)
        go_ret
        exact ⟨by rw [hres.out]; rfl, hx.trans hx2⟩
      | false =>
        have hres := Lib.hid (hnext hq)
        have HQ := Lib.hid hq
        clear hhit hnext hq
        go_wp2_with (go_at_fn g; refine HCALL.out.mono ?_; rw [HQ.out]; rintro e w2 ⟨rfl, hx2⟩)
        go_roundw
        case rel => exact ⟨k + 1, hlt, by go_num, hres.out, hx.trans hx2⟩
        case measure => simp [intOf]; omega
    · obtain rfl : k = n := by omega
      have hI : decide ((k : Int) < (k : Int)) = false := decide_eq_false (by omega)
      have hres : Hid (idxP p l = -1) := by
        show _ = _
        refine idxP_miss fun x hx => hall.out x ?_
        rw [List.take_of_length_le (by rw [HN.out]; exact Nat.le_refl _)]; exact hx
      go_wp2_with fail
      go_ret
      exact ⟨by rw [hres.out]; rfl, hx⟩

set_option maxRecDepth 100000 in
set_option maxHeartbeats 2000000 in
theorem idxC_any (w : World) (v : Value) (l : List (C)) (h : PredR w v l) (g : Nat) (cb : Array Value) (p : C → Bool) (eg : ∀ args w, (callFunc g args).run Tryz.prog w = .ok (.enter g args) w)
    (hc : ∀ (W : World) (x : C) (sa : Option Addr) (sc : Nat) , Ext w W → x ∈ l → SetR W (.slice sa x.set.length sc) x.set → Calls Tryz.prog g (#[.agg #[.string (strOf x.name), .int .i64 x.op, .int .i64 x.v.k, .int .i64 x.v.n, .string (strOf x.v.s), .bool x.v.b, .slice sa x.set.length sc]] ++ cb) W fun e W' => e = .returned (.bool (p x)) ∧ Ext W W') :
    Calls Tryz.prog 86 #[v, .func (.func g) #[] cb] w fun e w' => e = .returned (.int .i64 (idxP p l)) ∧ Ext w w' := by
  obtain ⟨a, cap, rfl, hcc, hm⟩ := h.shape
  unfold maxLen at hm
  generalize hn : l.length = n at *
  have HN := Lib.hid hn
  clear hn
  have HC := Lib.hid hc
  clear hc
  go_enter Tryz.func86, Tryz.ntmps86
  go_wp2_with fail
  go_loopw [5, 8] (fun _ i wr => ∃ k : Nat, k ≤ n ∧ i = .int .i64 k ∧ Hid (∀ x ∈ l.take k, p x = false) ∧ Ext w wr) (fun _ i _ => n - (intOf i).toNat)
  case atStart => exact ⟨0, Nat.zero_le _, rfl, (by show ∀ x ∈ l.take 0, _; simp), Ext.refl w⟩
  case round =>
    obtain ⟨k, hk, rfl, hall, hx⟩ := hrel
    by_cases hlt : k < n
    · have k1 : k < l.length := by rw [HN.out]; exact hlt
      have hI : decide ((k : Int) < (n : Int)) = true := decide_eq_true (by omega)
      have hext := h.ext hx
      obtain ⟨B1, o1, sa, sc, rfl, f0, f1, f2, f3, f4, f5, f6, hs⟩ := PredR.at hext k1
      have hcall := HC.out _ l[k] sa sc hx (List.getElem_mem k1) hs
      have hhit : p l[k] = true → idxP p l = k := fun e => idxP_hit k1 hall.out e
      have hnext : p l[k] = false → ∀ x ∈ l.take (k + 1), p x = false := fun e x hx => by
        rw [List.take_succ_eq_append_getElem k1] at hx
        rcases List.mem_append.1 hx with hx | hx
        · exact hall.out x hx
        · rw [List.mem_singleton.1 hx]; exact e
      generalize l[k] = x at *
      have HCALL := Lib.hid hcall
      clear hcall
      cases hq : p x with
      | true =>
        have hres := Lib.hid (hhit hq)
        have HQ := Lib.hid hq
        clear hhit hnext hq
        go_wp2_with (go_at_fn g; refine HCALL.out.mono ?_; rw [HQ.out]; rintro e w2 ⟨rfl, hx2⟩)
        go_ret
        exact ⟨by rw [hres.out]; rfl, hx.trans hx2⟩
      | false =>
        have hres := Lib.hid (hnext hq)
        have HQ := Lib.hid hq
        clear hhit hnext hq
        go_wp2_with (go_at_fn g; refine HCALL.out.mono ?_; rw [HQ.out]; rintro e w2 ⟨rfl, hx2⟩)
        go_roundw
        case rel => exact ⟨k + 1, hlt, by go_num, hres.out, hx.trans hx2⟩
        case measure => simp [intOf]; omega
    · obtain rfl : k = n := by omega
      have hI : decide ((k : Int) < (k : Int)) = false := decide_eq_false (by omega)
      have hres : Hid (idxP p l = -1) := by
        show _ = _
        refine idxP_miss fun x hx => hall.out x ?_
        rw [List.take_of_length_le (by rw [HN.out]; exact Nat.le_refl _)]; exact hx
      go_wp2_with fail
      go_ret
      exact ⟨by rw [hres.out]; rfl, hx⟩

set_option maxRecDepth 100000 in
set_option maxHeartbeats 2000000 in
theorem hasC_any (w : World) (v : Value) (l : List (C)) (h : PredR w v l) (g : Nat) (cb : Array Value) (p : C → Bool) (eg : ∀ args w, (callFunc g args).run Tryz.prog w = .ok (.enter g args) w)
    (hc : ∀ (W : World) (x : C) (sa : Option Addr) (sc : Nat) , Ext w W → x ∈ l → SetR W (.slice sa x.set.length sc) x.set → Calls Tryz.prog g (#[.agg #[.string (strOf x.name), .int .i64 x.op, .int .i64 x.v.k, .int .i64 x.v.n, .string (strOf x.v.s), .bool x.v.b, .slice sa x.set.length sc]] ++ cb) W fun e W' => e = .returned (.bool (p x)) ∧ Ext W W') :
    Calls Tryz.prog 39 #[v, .func (.func g) #[] cb] w fun e w' => e = .returned (.bool (l.any p)) ∧ Ext w w' := by
  have hcon := idxC_any w v l h g cb p eg hc
  have hb := Lib.hid (idxP_any p l)
  clear hc
  generalize idxP p l = i at *
  obtain ⟨a, cap, rfl, hcc, hm⟩ := h.shape
  go_enter Tryz.func39, Tryz.ntmps39
  go_wp2_with (go_at_call 86; refine hcon.mono ?_; rintro e w' ⟨rfl, hx⟩)
  go_ret
  exact ⟨by rw [hb.out]; rfl, hx⟩

set_option maxRecDepth 100000 in
set_option maxHeartbeats 2000000 in
theorem idxV_any (w : World) (v : Value) (l : List (V)) (h : SetR w v l) (g : Nat) (cb : Array Value) (p : V → Bool) (eg : ∀ args w, (callFunc g args).run Tryz.prog w = .ok (.enter g args) w)
    (hc : ∀ (W : World) (x : V) , Ext w W → x ∈ l → Calls Tryz.prog g (#[.agg #[.int .i64 x.k, .int .i64 x.n, .string (strOf x.s), .bool x.b]] ++ cb) W fun e W' => e = .returned (.bool (p x)) ∧ Ext W W') :
    Calls Tryz.prog 124 #[v, .func (.func g) #[] cb] w fun e w' => e = .returned (.int .i64 (idxP p l)) ∧ Ext w w' := by
  obtain ⟨a, cap, rfl, hcc, hm⟩ := Row.shape h
  unfold maxLen at hm
  generalize hn : l.length = n at *
  have HN := Lib.hid hn
  clear hn
  have HC := Lib.hid hc
  clear hc
  go_enter Tryz.func124, Tryz.ntmps124
  go_wp2_with fail
  go_loopw [5, 8] (fun _ i wr => ∃ k : Nat, k ≤ n ∧ i = .int .i64 k ∧ Hid (∀ x ∈ l.take k, p x = false) ∧ Ext w wr) (fun _ i _ => n - (intOf i).toNat)
  case atStart => exact ⟨0, Nat.zero_le _, rfl, (by show ∀ x ∈ l.take 0, _; simp), Ext.refl w⟩
  case round =>
    obtain ⟨k, hk, rfl, hall, hx⟩ := hrel
    by_cases hlt : k < n
    · have k1 : k < l.length := by rw [HN.out]; exact hlt
      have hI : decide ((k : Int) < (n : Int)) = true := decide_eq_true (by omega)
      have hext := h.ext hx
      obtain ⟨B1, o1, rfl, f0, f1, f2, f3⟩ := SetR.at hext k1
      have hcall := HC.out _ l[k] hx (List.getElem_mem k1)
      have hhit : p l[k] = true → idxP p l = k := fun e => idxP_hit k1 hall.out e
      have hnext : p l[k] = false → ∀ x ∈ l.take (k + 1), p x = false := fun e x hx => by
        rw [List.take_succ_eq_append_getElem k1] at hx
        rcases List.mem_append.1 hx with hx | hx
        · exact hall.out x hx
        · rw [List.mem_singleton.1 hx]; exact e
      generalize l[k] = x at *
      have HCALL := Lib.hid hcall
      clear hcall
      cases hq : p x with
      | true =>
        have hres := Lib.hid (hhit hq)
        have HQ := Lib.hid hq
        clear hhit hnext hq
        go_wp2_with (go_at_fn g; refine HCALL.out.mono ?_; rw [HQ.out]; rintro e w2 ⟨rfl, hx2⟩)
        go_ret
        exact ⟨by rw [hres.out]; rfl, hx.trans hx2⟩
      | false =>
        have hres := Lib.hid (hnext hq)
        have HQ := Lib.hid hq
        clear hhit hnext hq
        go_wp2_with (go_at_fn g; refine HCALL.out.mono ?_; rw [HQ.out]; rintro e w2 ⟨rfl, hx2⟩)
        go_roundw
        case rel => exact ⟨k + 1, hlt, by go_num, hres.out, hx.trans hx2⟩
        case measure => simp [intOf]; omega
    · obtain rfl : k = n := by omega
      have hI : decide ((k : Int) < (k : Int)) = false := decide_eq_false (by omega)
      have hres : Hid (idxP p l = -1) := by
        show _ = _
        refine idxP_miss fun x hx => hall.out x ?_
        rw [List.take_of_length_le (by rw [HN.out]; exact Nat.le_refl _)]; exact hx
      go_wp2_with fail
      go_ret
      exact ⟨by rw [hres.out]; rfl, hx⟩

set_option maxRecDepth 100000 in
set_option maxHeartbeats 2000000 in
theorem hasV_any (w : World) (v : Value) (l : List (V)) (h : SetR w v l) (g : Nat) (cb : Array Value) (p : V → Bool) (eg : ∀ args w, (callFunc g args).run Tryz.prog w = .ok (.enter g args) w)
    (hc : ∀ (W : World) (x : V) , Ext w W → x ∈ l → Calls Tryz.prog g (#[.agg #[.int .i64 x.k, .int .i64 x.n, .string (strOf x.s), .bool x.b]] ++ cb) W fun e W' => e = .returned (.bool (p x)) ∧ Ext W W') :
    Calls Tryz.prog 87 #[v, .func (.func g) #[] cb] w fun e w' => e = .returned (.bool (l.any p)) ∧ Ext w w' := by
  have hcon := idxV_any w v l h g cb p eg hc
  have hb := Lib.hid (idxP_any p l)
  clear hc
  generalize idxP p l = i at *
  obtain ⟨a, cap, rfl, hcc, hm⟩ := Row.shape h
  go_enter Tryz.func87, Tryz.ntmps87
  go_wp2_with (go_at_call 124; refine hcon.mono ?_; rintro e w' ⟨rfl, hx⟩)
  go_ret
  exact ⟨by rw [hb.out]; rfl, hx⟩

end Go.Proofs.YtlhbpflcffjhmaaGreat

namespace Go.Proofs.YtlhbpflcffjhmaaGreat
open Go.RowKit Go.ChangeShapes Go.WideShapes Go.Deep

structure PP where
  h : Value
  p : List C
def ppC (x : PP) : List Value := [x.h]
theorem ppC_len (x : PP) : (ppC x).length = 1 := rfl
/-- A row of predicates. -/
structure PredsR (w : World) (v : Value) (us : List PP) : Prop where
  row : Row w 1 v us.length (us.flatMap ppC)
  hs : ∀ x ∈ us, PredR w x.h x.p
theorem PredsR.ext {w w' : World} {v : Value} {us : List PP} (h : PredsR w v us) (hx : Ext w w') : PredsR w' v us := ⟨h.row.ext hx, fun x hm => (h.hs x hm).ext hx⟩
theorem PredsR.at {w : World} {a : Option Addr} {n cap : Nat} {us : List PP} (h : PredsR w (.slice a n cap) us) {k : Nat} (hk : k < us.length) : ∃ B o, a = some ⟨B, o, none⟩ ∧ w.cell? ⟨B, o + k, none⟩ = some us[k].h := by
  obtain ⟨B, o, rfl⟩ := Row.base h.row (by omega) (by decide)
  have q := Row.cellAt h.row ((flat_get ppC 1 ppC_len us k hk 0 (by decide)).trans (rfl : (ppC us[k])[0]? = some us[k].h)) (by omega)
  rw [Nat.mul_one, Nat.add_zero] at q
  exact ⟨B, o, rfl, q⟩
theorem u8n {a : Int} (h : (Lit.int .u8 a).wf = true) : ∃ n : Nat, a = (n : Int) ∧ n < 256 := by
  have := bounds_u8 h
  exact ⟨a.toNat, by omega, by omega⟩
section
variable {H : Type} {enc : TypeId × Value → H} {W : World} {base : Nat} {held : Bool}
set_option maxRecDepth 100000 in
theorem open_preds {fuel : Nat} {h : Value} {x : DataW H × List MemPlace} (ht : DataW.trod enc Tryz.prog W base (fun _ => true) held fuel 22 [h] = some x) : ∃ us : List PP, PredsR W h us ∧ ∀ y ∈ us, ∀ c ∈ y.p, okC c := by
  rcases open_slice Tryz.underlying22 ht with ⟨e, _⟩ | ⟨a, len, cap, m, n, D, Pl, e, _, hl, hm, hmm, _, hi⟩
  · simp only [List.cons.injEq, and_true] at e
    subst e
    exact ⟨[], ⟨Row.nil W 1, (fun _ h => (by cases h))⟩, (fun _ h => (by cases h))⟩
  · simp only [List.cons.injEq, and_true] at e
    subst e
    simp only [if_true] at hmm
    subst hmm
    have hC : Tryz.prog.cellsOf 25 = 1 := by kernel_rfl
    rw [hC] at hi
    obtain ⟨l, hln, hp⟩ := list_of (p := fun i (v : PP) => W.cells? base (a.add (i * 1)) 1 = some (ppC v) ∧ PredR W v.h v.p ∧ ∀ c ∈ v.p, okC c) m fun i hi' => by
      obtain ⟨cs, h1, h2⟩ := hi i hi'
      have hlc := (World.cells?_some h1).2.1
      match cs, hlc with
      | [c], _ =>
        obtain ⟨p, hv, hk⟩ := open_pred h2
        exact ⟨⟨c, p⟩, h1, hv, hk⟩
    have hr := row_of_cells ppC 1 ppC_len (by decide) hl hm l hln fun i hi => (hp i hi).1
    have e : (l.take len).length = len := by rw [List.length_take]; omega
    have hall : ∀ y ∈ l.take len, PredR W y.h y.p ∧ ∀ c ∈ y.p, okC c := fun y hy => by
      obtain ⟨i, hi, rfl⟩ := List.getElem_of_mem (List.mem_of_mem_take hy)
      exact (hp i hi).2
    exact ⟨l.take len, ⟨by rw [e]; exact hr, fun y hy => (hall y hy).1⟩, fun y hy => (hall y hy).2⟩
set_option maxRecDepth 100000 in
theorem arg_preds {b0 : Nat} {v : Value} {d : DataW H} {p : List MemPlace} (hv : Value.okWide Tryz.prog W .any b0 22 v) (h : DataW.Trod enc Tryz.prog W base (fun _ => true) held 22 v d p) : ∃ us : List PP, PredsR W v us ∧ ∀ y ∈ us, ∀ c ∈ y.p, okC c := by
  obtain ⟨a, len, cap, rfl⟩ := okWide_slice Tryz.underlying22 hv
  obtain ⟨fuel, hf⟩ := h
  exact open_preds hf
end
end Go.Proofs.YtlhbpflcffjhmaaGreat

namespace Go.Proofs.YtlhbpflcffjhmaaGreat
open Go.RowKit

theorem own_ext {w w' : World} {base size n : Nat} {e : TypeId} {v : Value} {xs : List Value} (h : w.ownsRow base e size v n xs) (hx : Ext w w') : w'.ownsRow base e size v n xs := by
  refine ⟨h.1, ?_⟩
  rcases h.2 with h0 | ⟨g, cap, cur, e0, hb, hg, hn, hm, hs, ht⟩
  · exact .inl h0
  · exact .inr ⟨g, cap, cur, e0, hb, by rw [hx.block g (Array.getElem?_eq_some_iff.1 hg).1]; exact hg, hn, hm, hs, ht⟩
theorem grown_ext {w w' w2 : World} {row : Option Nat} (h : w.grownBy w' row) (hx : Ext w' w2) : w.grownBy w2 row :=
  ⟨hx.os.trans h.os, hx.tape.trans h.tape, hx.output.trans h.output, Nat.le_trans h.size hx.size, fun k hk hne => (hx.block k (Nat.lt_of_lt_of_le hk h.size)).trans (h.block k hk hne)⟩
theorem own_keep {w w' : World} {base size n : Nat} {e : TypeId} {v : Value} {xs : List Value} {row : Option Nat} (h : w.ownsRow base e size v n xs) (hg : w.grownBy w' row) (hne : ∀ k, v.ownBlock = some k → row ≠ some k) : w'.ownsRow base e size v n xs := by
  refine ⟨h.1, ?_⟩
  rcases h.2 with h0 | ⟨g, cap, cur, rfl, hb, hgg, hn, hm, hs, ht⟩
  · exact .inl h0
  · exact .inr ⟨g, cap, cur, rfl, hb, by rw [hg.block g (Array.getElem?_eq_some_iff.1 hgg).1 (fun e => hne g rfl e.symm)]; exact hgg, hn, hm, hs, ht⟩
theorem own_low {w : World} {base b2 size n : Nat} {e : TypeId} {v : Value} {xs : List Value} (h : w.ownsRow base e size v n xs) (hb : b2 ≤ base) : w.ownsRow b2 e size v n xs := by
  refine ⟨h.1, ?_⟩
  rcases h.2 with h0 | ⟨g, cap, cur, rfl, hb', hgg, hn, hm, hs, ht⟩
  · exact .inl h0
  · exact .inr ⟨g, cap, cur, rfl, Nat.le_trans hb hb', hgg, hn, hm, hs, ht⟩
/-- Rows of two types lie apart. -/
theorem own_apart {w : World} {base b2 size s2 n m : Nat} {e e2 : TypeId} {v u : Value} {xs ys : List Value} (h : w.ownsRow base e size v n xs) (k : w.ownsRow b2 e2 s2 u m ys) (he : e ≠ e2) : ∀ q, u.ownBlock = some q → v.ownBlock ≠ some q := by
  intro q hq hv
  rcases h.2 with ⟨rfl, _⟩ | ⟨g, cap, cur, rfl, _, hg, _⟩
  · simp [Value.ownBlock] at hv
  · rcases k.2 with ⟨rfl, _⟩ | ⟨g2, cap2, cur2, rfl, _, hg2, _⟩
    · simp [Value.ownBlock] at hq
    · simp only [Value.ownBlock, Option.some.injEq] at hq hv
      subst hq
      subst hv
      rw [hg] at hg2
      cases hg2
      exact he rfl
theorem own_ne {w : World} {base size n b : Nat} {e t : TypeId} {v : Value} {xs : List Value} {c : Array Value} {fr : Nat × Nat} (h : w.ownsRow base e size v n xs) (hb : w.heap[b]? = some (.cells c t fr)) (he : e ≠ t) : v.ownBlock ≠ some b := by
  intro hv
  rcases h.2 with ⟨rfl, _⟩ | ⟨g, cap, cur, rfl, _, hg, _⟩
  · simp [Value.ownBlock] at hv
  · simp only [Value.ownBlock, Option.some.injEq] at hv
    subst hv
    rw [hg] at hb
    cases hb
    exact he rfl
/-- A row of two worlds' own: what was made later lies apart from what was there. -/
theorem own_later {w w' : World} {b size n : Nat} {e : TypeId} {v : Value} {xs : List Value} (h : w.ownsRow b e size v n xs) {k : Nat} (hk : w'.heap.size ≤ b) (hl : k < w'.heap.size) : v.ownBlock ≠ some k := by
  intro hv
  rcases h.2 with ⟨rfl, _⟩ | ⟨g, cap, cur, rfl, hb, hg, _⟩
  · simp [Value.ownBlock] at hv
  · simp only [Value.ownBlock, Option.some.injEq] at hv
    omega
theorem own_none (w : World) (base : Nat) (e : TypeId) (size : Nat) : w.ownsRow base e size (.slice none 0 0) 0 [] := ⟨by simp, .inl ⟨rfl, rfl⟩⟩
theorem own_len_le {w : World} {base size n : Nat} {e : TypeId} {v : Value} {xs : List Value} (h : w.ownsRow base e size v n xs) : n ≤ maxLen := Row.len_le (Row.of_own h)
theorem own_shape {w : World} {base size n : Nat} {e : TypeId} {v : Value} {xs : List Value} (h : w.ownsRow base e size v n xs) : ∃ a cap, v = .slice a n cap ∧ n ≤ cap ∧ cap ≤ maxLen := by obtain ⟨_, a, cap, h1, h2, h3, _⟩ := Row.of_own h; exact ⟨a, cap, h1, h2, h3⟩
end Go.Proofs.YtlhbpflcffjhmaaGreat

namespace Go.Proofs.YtlhbpflcffjhmaaGreat
open Go.RowKit

/-- A constraint's set, made by the call from block b on. -/
def SetO (b : Nat) (w : World) (x : CS) : Prop := w.ownsRow b 61 4 x.h x.c.set.length (x.c.set.flatMap vC)
theorem SetO.set {b : Nat} {w : World} {x : CS} (h : SetO b w x) : SetR w x.h x.c.set := Row.of_own h
theorem SetO.ext {b : Nat} {w w' : World} {x : CS} (h : SetO b w x) (hx : Ext w w') : SetO b w' x := own_ext h hx
theorem SetO.keep {b base n : Nat} {w w' : World} {x : CS} {v : Value} {xs : List Value} (h : SetO b w x) (hv : w.ownsRow base 64 7 v n xs) (hg : w.grownBy w' v.ownBlock) : SetO b w' x := own_keep h hg (own_apart hv h (by decide))
theorem SetO.one {b : Nat} {w : World} {x : CS} (h : SetO b w x) : x.h.oneCell' = true := by obtain ⟨a, c, e, _⟩ := Row.shape h.set; rw [e]; rfl
theorem SetO.ne {b base n : Nat} {w : World} {x : CS} {v : Value} {xs : List Value} (h : SetO b w x) (hv : w.ownsRow base 64 7 v n xs) (hs : v.ownBlock ≠ none) : x.h.ownBlock ≠ v.ownBlock := by
  cases hq : x.h.ownBlock with
  | none => exact fun e => hs e.symm
  | some q => exact fun e => own_apart hv h (by decide) q hq e.symm
end Go.Proofs.YtlhbpflcffjhmaaGreat

namespace Go.Proofs.YtlhbpflcffjhmaaGreat
open Go.RowKit Go.MapKept Go.ChangeMaps

/-- Block b is a map whose entries, in the order in which they were laid, are E; its keys are of kind d. -/
def MapE (w : World) (b : Nat) (d : TypeDesc) (E : List (Value × Value)) : Prop :=
  ∃ es clock, w.heap[b]? = some (.map es clock) ∧ Stamped es clock ∧ (∀ x ∈ es.toList, IsKey d x.key) ∧ es.toList.map (fun x => (x.key, x.val)) = E
/-- Block b alone has turned. -/
structure But (b : Nat) (w w' : World) : Prop where
  os : w'.os = w.os
  tape : w'.tape = w.tape
  output : w'.output = w.output
  size : w'.heap.size = w.heap.size
  drawn : w.drawn ≤ w'.drawn
  block : ∀ k, k ≠ b → w'.heap[k]? = w.heap[k]?
theorem But.refl (b : Nat) (w : World) : But b w w := ⟨rfl, rfl, rfl, rfl, Nat.le_refl _, fun _ _ => rfl⟩
theorem But.trans {b : Nat} {x y z : World} (h : But b x y) (k : But b y z) : But b x z :=
  ⟨k.os.trans h.os, k.tape.trans h.tape, k.output.trans h.output, k.size.trans h.size, Nat.le_trans h.drawn k.drawn, fun i hi => (k.block i hi).trans (h.block i hi)⟩
theorem But.ext {a w w' : World} {b : Nat} (h : But b w w') (hx : Ext a w) (hb : a.heap.size ≤ b) : Ext a w' :=
  ⟨h.os.trans hx.os, h.tape.trans hx.tape, h.output.trans hx.output, by rw [h.size]; exact hx.size, fun k hk => (h.block k (by omega)).trans (hx.block k hk)⟩
theorem But.map {w w' : World} {b c : Nat} {d : TypeDesc} {E : List (Value × Value)} (h : But b w w') (hm : MapE w c d E) (hc : c ≠ b) : MapE w' c d E := by
  obtain ⟨es, clock, h1, h2⟩ := hm
  exact ⟨es, clock, (h.block c hc).trans h1, h2⟩
theorem but_set {w : World} {b : Nat} {o : Obj} : But b w (setBlock w b o) :=
  ⟨rfl, rfl, rfl, by simp [setBlock], Nat.le_refl _, fun k hk => by unfold setBlock; exact Array.getElem?_setIfInBounds_ne (Ne.symm hk)⟩
theorem MapE.ext {w w' : World} {b : Nat} {d : TypeDesc} {E : List (Value × Value)} (h : MapE w b d E) (hx : Ext w w') : MapE w' b d E := by
  obtain ⟨es, clock, h1, h2⟩ := h
  exact ⟨es, clock, by rw [hx.block b (Array.getElem?_eq_some_iff.1 h1).1]; exact h1, h2⟩
theorem MapE.lt {w : World} {b : Nat} {d : TypeDesc} {E : List (Value × Value)} (h : MapE w b d E) : b < w.heap.size := by
  obtain ⟨es, clock, h1, _⟩ := h
  exact (Array.getElem?_eq_some_iff.1 h1).1
theorem MapE.made (w : World) (d : TypeDesc) : MapE (w.alloc (.map #[] 0)) w.heap.size d [] :=
  ⟨#[], 0, (MapKept.heap_alloc w _).1, stamped_empty 0, by simp, rfl⟩
theorem MapE.keys {w : World} {b : Nat} {d : TypeDesc} {E : List (Value × Value)} (h : MapE w b d E) : (∀ p ∈ E, IsKey d p.1) ∧ (E.map (·.1)).Nodup := by
  obtain ⟨es, clock, _, hs, hk, rfl⟩ := h
  refine ⟨fun p hp => ?_, ?_⟩
  · obtain ⟨x, hx, rfl⟩ := List.mem_map.1 hp
    exact hk x hx
  · rw [List.map_map]; exact hs.2.2

section
variable {P : Program}
theorem MapE.look {w : World} {b : Nat} {d : TypeDesc} {E : List (Value × Value)} (h : MapE w b d E) {t k e : TypeId} (ht : P.underlying t = some (.map k e)) (hd : P.underlying k = some d) {z : Value} (hz : (zeroValue e).run P w = .ok z w) {key : Value} (hk : IsKey d key) :
    ((∀ p ∈ E, p.1 ≠ key) ∧ (Instr.lookup t (.map (some b)) key false).run P w = .ok z w ∧ (Instr.lookup t (.map (some b)) key true).run P w = .ok (.tuple #[z, .bool false]) w) ∨
    ∃ (j : Nat) (v : Value), E[j]? = some (key, v) ∧ (Instr.lookup t (.map (some b)) key false).run P w = .ok v w ∧ (Instr.lookup t (.map (some b)) key true).run P w = .ok (.tuple #[v, .bool true]) w := by
  obtain ⟨es, clock, hb, hs, hks, rfl⟩ := h
  rcases findNow_spec hk es.toList 0 hks with ⟨h1, h2⟩ | ⟨j, x, h1, h2, h3⟩
  · refine .inl ⟨fun p hp => ?_, ?_, ?_⟩
    · obtain ⟨x, hx, rfl⟩ := List.mem_map.1 hp
      exact h2 x hx
    · simp [Instr.lookup, run_underlying ht, Go.MapKept.run_getObj_map hb, Go.MapKept.run_checkKey hd hk, Go.MapKept.run_findKey hd h1, hz, Result.andThen]
    · simp [Instr.lookup, run_underlying ht, Go.MapKept.run_getObj_map hb, Go.MapKept.run_checkKey hd hk, Go.MapKept.run_findKey hd h1, hz, Result.andThen]
  · refine .inr ⟨j, x.val, ?_, ?_, ?_⟩
    · rw [List.getElem?_map, h2]; simp [h3]
    · simp [Instr.lookup, run_underlying ht, Go.MapKept.run_getObj_map hb, Go.MapKept.run_checkKey hd hk, Go.MapKept.run_findKey hd h1, Result.andThen]
    · simp [Instr.lookup, run_underlying ht, Go.MapKept.run_getObj_map hb, Go.MapKept.run_checkKey hd hk, Go.MapKept.run_findKey hd h1, Result.andThen]

theorem map_modify_set (es : Array MapEntry) (j : Nat) (x : MapEntry) (hx : es[j]? = some x) (key v : Value) :
    (es.modify j fun e => { e with key := key, val := v }).toList.map (fun x => (x.key, x.val)) = (es.toList.map (fun x => (x.key, x.val))).set j (key, v) := by
  apply List.ext_getElem?
  intro i
  simp only [List.getElem?_map, Array.getElem?_toList, Array.getElem?_modify, List.getElem?_set, List.length_map]
  by_cases hji : j = i
  · subst hji
    rw [if_pos rfl, if_pos rfl, hx, if_pos (by rw [Array.length_toList]; exact (Array.getElem?_eq_some_iff.1 hx).1)]
    rfl
  · rw [if_neg hji, if_neg hji]
theorem MapE.put {w : World} {b : Nat} {d : TypeDesc} {E : List (Value × Value)} (h : MapE w b d E) {t k e : TypeId} (ht : P.underlying t = some (.map k e)) (hd : P.underlying k = some d) {key v : Value} (hk : IsKey d key) :
    ∃ w', (Instr.mapUpdate t (.map (some b)) key v).run P w = .ok () w' ∧ But b w w' ∧
      (((∀ p ∈ E, p.1 ≠ key) ∧ MapE w' b d (E ++ [(key, v)])) ∨ ∃ (j : Nat) (u : Value), E[j]? = some (key, u) ∧ MapE w' b d (E.set j (key, v))) := by
  obtain ⟨es, clock, hb, hs, hks, rfl⟩ := h
  rcases findNow_spec hk es.toList 0 hks with ⟨h1, h2⟩ | ⟨j, x, h1, h2, h3⟩
  · refine ⟨setBlock w b (.map (es.push { key, val := v, born := clock }) (clock + 1)), ?_, but_set, .inl ⟨fun p hp => ?_, _, _, heap_setBlock_same hb _, stamped_push hs h2, ?_, by simp⟩⟩
    · simp only [Instr.mapUpdate, Sem.run_bind, run_underlying ht, Go.MapKept.run_getObj_map hb, Go.MapKept.run_checkKey hd hk, Go.MapKept.run_findKey hd h1, Result.andThen]; simp [Go.MapKept.run_setObj_map _ hb, setBlock]
    · obtain ⟨x, hx, rfl⟩ := List.mem_map.1 hp
      exact h2 x hx
    · intro x hx
      simp only [Array.toList_push, List.mem_append, List.mem_singleton] at hx
      rcases hx with hx | rfl
      · exact hks x hx
      · exact hk
  · have hj : es[j]? = some x := by simpa using h2
    have hkey : ∀ e', es[j]? = some e' → ({ e' with key := key, val := v } : MapEntry).key = e'.key := fun e' he' => by rw [hj] at he'; cases he'; exact h3.symm
    refine ⟨setBlock w b (.map (es.modify j fun e => { e with key := key, val := v }) clock), ?_, but_set, .inr ⟨j, x.val, ?_, _, _, heap_setBlock_same hb _, stamped_modify hs _ _ (fun _ _ => rfl) (fun e' _ he' => hkey e' he'), isKey_modify hks _ _ hkey, map_modify_set es j x hj key v⟩⟩
    · simp only [Instr.mapUpdate, Sem.run_bind, run_underlying ht, Go.MapKept.run_getObj_map hb, Go.MapKept.run_checkKey hd hk, Go.MapKept.run_findKey hd h1, Result.andThen]; simp [hj, h3, run_keyThatStays hk, Go.MapKept.run_setObj_map _ hb, setBlock]
    · rw [List.getElem?_map, h2]; simp [h3]
theorem map_eraseIdx' {α β : Type} (f : α → β) : ∀ (l : List α) (j : Nat), (l.eraseIdx j).map f = (l.map f).eraseIdx j
  | [], j => by simp
  | x :: l, 0 => by simp
  | x :: l, j + 1 => by simp [map_eraseIdx' f l j]
theorem map_erase (es : Array MapEntry) (j : Nat) : (es.eraseIdxIfInBounds j).toList.map (fun x => (x.key, x.val)) = (es.toList.map (fun x => (x.key, x.val))).eraseIdx j := by
  unfold Array.eraseIdxIfInBounds
  split
  · rw [Array.toList_eraseIdx, map_eraseIdx']
  · rename_i h
    rw [List.eraseIdx_of_length_le]
    rw [List.length_map, Array.length_toList]; omega
theorem MapE.del {w : World} {b : Nat} {d : TypeDesc} {E : List (Value × Value)} (h : MapE w b d E) {t k e ty : TypeId} (ht : P.underlying t = some (.map k e)) (hd : P.underlying k = some d) {key : Value} (hk : IsKey d key) :
    ∃ w', (Builtin.delete_ #[t, k] ty #[.map (some b), key]).run P w = .ok (.tuple #[]) w' ∧ But b w w' ∧
      (((∀ p ∈ E, p.1 ≠ key) ∧ MapE w' b d E) ∨ ∃ (j : Nat) (u : Value), E[j]? = some (key, u) ∧ MapE w' b d (E.eraseIdx j)) := by
  obtain ⟨es, clock, hb, hs, hks, rfl⟩ := h
  rcases findNow_spec hk es.toList 0 hks with ⟨h1, h2⟩ | ⟨j, x, h1, h2, h3⟩
  · refine ⟨setBlock w b (.map es clock), ?_, but_set, .inl ⟨fun p hp => ?_, _, _, heap_setBlock_same hb _, hs, hks, rfl⟩⟩
    · simp [Builtin.delete_, run_underlying ht, Go.MapKept.run_getObj_map hb, Go.MapKept.run_checkKey hd hk, Go.MapKept.run_findKey hd h1, Go.MapKept.run_setObj_map _ hb, Result.andThen, setBlock]
    · obtain ⟨x, hx, rfl⟩ := List.mem_map.1 hp
      exact h2 x hx
  · refine ⟨setBlock w b (.map (es.eraseIdxIfInBounds j) clock), ?_, but_set, .inr ⟨j, x.val, ?_, _, _, heap_setBlock_same hb _, stamped_erase hs _, ?_, map_erase es j⟩⟩
    · simp [Builtin.delete_, run_underlying ht, Go.MapKept.run_getObj_map hb, Go.MapKept.run_checkKey hd hk, Go.MapKept.run_findKey hd h1, Go.MapKept.run_setObj_map _ hb, Result.andThen, setBlock]
    · rw [List.getElem?_map, h2]; simp [h3]
    · intro y hy
      have hs' : (es.eraseIdxIfInBounds j).toList.Sublist es.toList := by
        unfold Array.eraseIdxIfInBounds
        split
        · simp only [Array.toList_eraseIdx]; exact List.eraseIdx_sublist _ _
        · exact List.Sublist.refl _
      exact hks y (hs'.subset hy)

/-! At the operation, for the walk -/
theorem wpList_put {ops : Array Oper} {Q : Exit → Act → World → Prop} {a : Act} {w : World} {rest : List Oper} {o : Oper} (hg : o.guard = none) (m x v : Operand) (t : TypeId) (hop : o.op = .mapUpdate t m x v)
    {k e : TypeId} {d : TypeDesc} (ht : P.underlying t = some (.map k e)) (hd : P.underlying k = some d) {b : Nat} {E : List (Value × Value)} (hm : a.eval m = .map (some b)) (h : MapE w b d E) (hk : IsKey d (a.eval x))
    (hK : ∀ w', But b w w' → (((∀ p ∈ E, p.1 ≠ a.eval x) ∧ MapE w' b d (E ++ [(a.eval x, a.eval v)])) ∨ ∃ (j : Nat) (u : Value), E[j]? = some (a.eval x, u) ∧ MapE w' b d (E.set j (a.eval x, a.eval v))) → wpList P ops Q rest (a.put o.dst undef) w') :
    wpList P ops Q (o :: rest) a w := by
  refine wpList_plain hg fun K' hK' => ?_
  obtain ⟨w', hrun, r1, r2⟩ := h.put ht hd hk (v := a.eval v)
  unfold Oper.wp
  simp [execOp, hop, hm, hrun, Result.andThen]
  exact hK' _ _ (hK w' r1 r2)
theorem wpList_del {ops : Array Oper} {Q : Exit → Act → World → Prop} {a : Act} {w : World} {rest : List Oper} {o : Oper} (hg : o.guard = none) (m x : Operand) (t k : TypeId) (hop : o.op = Op.call { callee := Callee.builtin Builtin.delete, args := #[m, x], argTypes := #[t, k] })
    {e : TypeId} {d : TypeDesc} (ht : P.underlying t = some (.map k e)) (hd : P.underlying k = some d) {b : Nat} {E : List (Value × Value)} (hm : a.eval m = .map (some b)) (h : MapE w b d E) (hk : IsKey d (a.eval x))
    (hK : ∀ w', But b w w' → (((∀ p ∈ E, p.1 ≠ a.eval x) ∧ MapE w' b d E) ∨ ∃ (j : Nat) (u : Value), E[j]? = some (a.eval x, u) ∧ MapE w' b d (E.eraseIdx j)) → wpList P ops Q rest (a.put o.dst (.tuple #[])) w') :
    wpList P ops Q (o :: rest) a w := by
  refine wpList_plain hg fun K' hK' => ?_
  obtain ⟨w', hrun, r1, r2⟩ := h.del ht hd hk (ty := o.type)
  unfold Oper.wp
  simp [execOp, hop, resolve, invoke, builtin, hm, hrun, Result.andThen]
  exact hK' _ _ (hK w' r1 r2)
theorem wpList_look {ops : Array Oper} {Q : Exit → Act → World → Prop} {a : Act} {w : World} {rest : List Oper} {o : Oper} (hg : o.guard = none) (m x : Operand) (t : TypeId) (ok : Bool) (hop : o.op = .lookup t m x ok)
    {k e : TypeId} {d : TypeDesc} (ht : P.underlying t = some (.map k e)) (hd : P.underlying k = some d) {z : Value} (hz : (zeroValue e).run P w = .ok z w) {b : Nat} {E : List (Value × Value)} (hm : a.eval m = .map (some b)) (h : MapE w b d E) (hk : IsKey d (a.eval x))
    (h1 : (∀ p ∈ E, p.1 ≠ a.eval x) → wpList P ops Q rest (a.put o.dst (if ok then .tuple #[z, .bool false] else z)) w)
    (h2 : ∀ (j : Nat) (v : Value), E[j]? = some (a.eval x, v) → wpList P ops Q rest (a.put o.dst (if ok then .tuple #[v, .bool true] else v)) w) :
    wpList P ops Q (o :: rest) a w := by
  refine wpList_plain hg fun K' hK' => ?_
  unfold Oper.wp
  rcases h.look ht hd hz hk with ⟨hn, r1, r2⟩ | ⟨j, v, hj, r1, r2⟩
  · cases ok
    · simp [execOp, hop, hm, r1, Result.andThen]; exact hK' _ _ (h1 hn)
    · simp [execOp, hop, hm, r2, Result.andThen]; exact hK' _ _ (h1 hn)
  · cases ok
    · simp [execOp, hop, hm, r1, Result.andThen]; exact hK' _ _ (h2 j v hj)
    · simp [execOp, hop, hm, r2, Result.andThen]; exact hK' _ _ (h2 j v hj)
end
end Go.Proofs.YtlhbpflcffjhmaaGreat
