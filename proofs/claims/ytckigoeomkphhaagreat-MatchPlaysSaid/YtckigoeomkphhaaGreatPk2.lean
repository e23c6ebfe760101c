/- What memory holds, read: rows of structs, values, constraints, predicates, attributes; worlds that only grew and drew.
What the rows' proofs share: arguments opened: values, sets, predicates, attributes, events, names.
Rows of the call's own: later, kept, apart. (Of any program.)
A constraint's set in memory of the call's own. (Of any seat that holds api.Constraint.)
Maps told by their entries: looking up, storing, deleting, ranging. (Of any program.)
Maps told by their entries: ranging over them; an entry that is taken and stored into. (Of any program.)
Boxes that a function makes as it begins.
A predicate in typed memory; a turn that leaves all but some blocks and the rows of one type. (Of any seat that holds api.Constraint.) -/
import Derived.Sort.Grow
import Derived.Deep.Draws
import Derived.Test.YtckigoeomkphhaaGreatProg
import Derived.ProofKit
import Derived.OpenShut
import Derived.ChangeOld
import Derived.SizedLaws
import Derived.Deep.Slices
import Derived.Deep.Fields
import Derived.ChangeSame
import Derived.MapKept
import Derived.ChangeMaps5
import Derived.Carry
import Derived.Maps.RangeRun
import Derived.OwnWalk
import Derived.WalkKit
import Derived.Maps.RangeWalk
import Derived.Maps.OwnSet
import Derived.Test.YtckigoeomkphhaaGreatPk1
namespace Go.Proofs.YtckigoeomkphhaaGreat
open Go.RowKit

/-- w' is w, with more memory and more draws: nothing that was there has turned. -/
def Grew (w w' : World) : Prop := Ext w w' ∧ w.drawn ≤ w'.drawn
theorem Grew.refl (w : World) : Grew w w := ⟨Ext.refl w, Nat.le_refl _⟩
theorem Grew.trans {a b c : World} (h : Grew a b) (k : Grew b c) : Grew a c := ⟨h.1.trans k.1, Nat.le_trans h.2 k.2⟩
theorem Grew.drew {a w : World} (h : Grew a w) : Grew a w.drew := ⟨h.1.drew, Nat.le_succ_of_le h.2⟩
theorem Grew.alloc {a w : World} (h : Grew a w) (o : Obj) : Grew a (w.alloc o) := ⟨h.1.alloc o, h.2⟩
theorem Grew.drewN {a w : World} (h : Grew a w) (n : Nat) : Grew a (w.drewN n) := ⟨⟨h.1.os, h.1.tape, h.1.output, h.1.size, h.1.block⟩, Nat.le_trans h.2 (Nat.le_add_right _ _)⟩
theorem Ext.drewN {a w : World} (h : Ext a w) (n : Nat) : Ext a (w.drewN n) := ⟨h.os, h.tape, h.output, h.size, h.block⟩
/-- In the sort's words. -/
theorem Grew.grown {w w' : World} (h : Grew w w') : ∃ q os, w' = Go.Sort.grow (w.drewN q) os := by
  obtain ⟨hx, hd⟩ := h
  refine ⟨w'.drawn - w.drawn, w'.heap.extract w.heap.size w'.heap.size, ?_⟩
  obtain ⟨wh, wt, wd, wo, wp⟩ := w
  obtain ⟨vh, vt, vd, vo, vp⟩ := w'
  have h1 : vt = wt := hx.tape
  have h2 : vo = wo := hx.os
  have h3 : vp = wp := hx.output
  have h4 : wh.size ≤ vh.size := hx.size
  have h5 : ∀ k, k < wh.size → vh[k]? = wh[k]? := hx.block
  subst h1; subst h2; subst h3
  have hdd : wd + (vd - wd) = vd := by have : wd ≤ vd := hd; omega
  have hh : vh = wh ++ vh.extract wh.size vh.size := by
    apply Array.ext_getElem?
    intro i
    rw [Array.getElem?_append]
    split
    · rename_i hi; exact h5 i hi
    · rename_i hi
      rw [Array.getElem?_extract]
      by_cases hv : i < vh.size
      · rw [if_pos (by omega)]; congr 1; omega
      · rw [if_neg (by omega), Array.getElem?_eq_none (by omega)]
  show (⟨vh, vt, vd, vo, vp⟩ : World) = ⟨wh ++ vh.extract wh.size vh.size, vt, wd + (vd - wd), vo, vp⟩
  rw [hdd, ← hh]
theorem Grew.of_grown (w : World) (q : Nat) (os : Array Obj) : Grew w (Go.Sort.grow (w.drewN q) os) := by
  refine ⟨⟨rfl, rfl, rfl, ?_, fun k hk => ?_⟩, Nat.le_add_right _ _⟩
  · show w.heap.size ≤ (w.heap ++ os).size
    rw [Array.size_append]; omega
  · show (w.heap ++ os)[k]? = w.heap[k]?
    rw [Array.getElem?_append_left hk]

/-! Rows of structs -/
section
variable {α : Type}
theorem flat_len (f : α → List Value) (sz : Nat) (hf : ∀ x, (f x).length = sz) (xs : List α) : (xs.flatMap f).length = xs.length * sz := by
  induction xs with
  | nil => simp
  | cons x xs ih => rw [List.flatMap_cons, List.length_append, ih, hf, List.length_cons, Nat.succ_mul]; omega
theorem flat_get (f : α → List Value) (sz : Nat) (hf : ∀ x, (f x).length = sz) : ∀ (xs : List α) (k : Nat) (hk : k < xs.length) (j : Nat), j < sz → (xs.flatMap f)[k * sz + j]? = (f xs[k])[j]?
  | [], k, hk, _, _ => by simp at hk
  | x :: xs, 0, _, j, hj => by
    rw [List.flatMap_cons, Nat.zero_mul, Nat.zero_add, List.getElem?_append_left (by rw [hf]; exact hj)]; rfl
  | x :: xs, k + 1, hk, j, hj => by
    rw [List.flatMap_cons, List.getElem?_append_right (by rw [hf, Nat.succ_mul]; omega), hf]
    have e : (k + 1) * sz + j - sz = k * sz + j := by rw [Nat.succ_mul]; omega
    rw [e, flat_get f sz hf xs k (by simpa using hk) j hj]; rfl
theorem flat_take (f : α → List Value) (sz : Nat) (hf : ∀ x, (f x).length = sz) : ∀ (xs : List α) (k : Nat), (xs.flatMap f).take (k * sz) = (xs.take k).flatMap f
  | [], k => by simp
  | x :: xs, 0 => by simp
  | x :: xs, k + 1 => by
    rw [List.flatMap_cons, List.take_succ_cons, List.flatMap_cons, Nat.succ_mul, Nat.add_comm, List.take_append, hf, List.take_of_length_le (by rw [hf]; omega), Nat.add_sub_cancel_left, flat_take f sz hf xs k]
theorem flat_drop (f : α → List Value) (sz : Nat) (hf : ∀ x, (f x).length = sz) : ∀ (xs : List α) (k : Nat), (xs.flatMap f).drop (k * sz) = (xs.drop k).flatMap f
  | [], k => by simp
  | x :: xs, 0 => by simp
  | x :: xs, k + 1 => by
    rw [List.flatMap_cons, List.drop_succ_cons, Nat.succ_mul, Nat.add_comm, List.drop_append, hf, List.drop_of_length_le (by rw [hf]; omega), Nat.add_sub_cancel_left, flat_drop f sz hf xs k, List.nil_append]
end

theorem Row.cell {w : World} {size n m cap : Nat} {a : Option Addr} {xs : List Value} {u : Value} (h : Row w size (.slice a m cap) n xs) {j : Nat} (hj : xs[j]? = some u) (hn : 0 < n) : ∃ B o, a = some ⟨B, o, none⟩ ∧ w.cell? ⟨B, o + j, none⟩ = some u := by
  obtain ⟨_, a', cap', hv, hc, _, _, hspot, hcell⟩ := h
  simp only [Value.slice.injEq] at hv
  obtain ⟨rfl, rfl, rfl⟩ := hv
  obtain ⟨p, rfl, hcl⟩ := hcell j u hj
  have := hspot p rfl (by omega)
  obtain ⟨pb, po, ps⟩ := p
  simp only at this
  subst this
  exact ⟨pb, po, rfl, hcl⟩
theorem Row.shape {w : World} {size n : Nat} {v : Value} {xs : List Value} (h : Row w size v n xs) : ∃ a cap, v = .slice a n cap ∧ n ≤ cap ∧ cap ≤ maxLen := by
  obtain ⟨_, a, cap, h1, h2, h3, _⟩ := h; exact ⟨a, cap, h1, h2, h3⟩
theorem Row.base {w : World} {size n m cap : Nat} {a : Option Addr} {xs : List Value} (h : Row w size (.slice a m cap) n xs) (hn : 0 < n) (hs : 0 < size) : ∃ B o, a = some ⟨B, o, none⟩ := by
  have hl := h.1
  have : 0 < xs.length := by rw [hl]; exact Nat.mul_pos hn hs
  obtain ⟨B, o, e, _⟩ := Row.cell h (j := 0) (List.getElem?_eq_getElem this) hn
  exact ⟨B, o, e⟩
theorem Row.cellAt {w : World} {size n m cap B o : Nat} {xs : List Value} {u : Value} (h : Row w size (.slice (some ⟨B, o, none⟩) m cap) n xs) {j : Nat} (hj : xs[j]? = some u) (hn : 0 < n) : w.cell? ⟨B, o + j, none⟩ = some u := by
  obtain ⟨B', o', e, hc⟩ := Row.cell h hj hn
  cases e; exact hc

/-- A part of a row. -/
theorem Row.sub {w : World} {size n cap : Nat} {a : Option Addr} {xs : List Value} (h : Row w size (.slice a n cap) n xs) (i j : Nat) (hij : i ≤ j) (hj : j ≤ n) (c : Nat) (hc : j - i ≤ c) (hcc : c ≤ cap - i) : Row w size (.slice (if cap = i then a else a.map (·.add (i * size))) (j - i) c) (j - i) ((xs.take (j * size)).drop (i * size)) := by
  obtain ⟨hl, a', cap', hv, hcp, hm, hnil, hspot, hcell⟩ := h
  simp only [Value.slice.injEq] at hv
  obtain ⟨rfl, -, rfl⟩ := hv
  refine ⟨?_, _, _, rfl, hc, by omega, fun he => ?_, fun p hp h0 => ?_, fun k u hk => ?_⟩
  · rw [List.length_drop, List.length_take, hl, Nat.sub_mul, Nat.min_eq_left (Nat.mul_le_mul_right _ hj)]
  · split at he
    · have := hnil he; omega
    · cases a with
      | none => have := hnil rfl; omega
      | some p => simp at he
  · split at hp
    · exact hspot p hp (by omega)
    · cases a with
      | none => simp at hp
      | some p' =>
        simp at hp
        rw [← hp]
        unfold Addr.add
        split
        · exact hspot p' rfl (by omega)
        · rfl
  · rw [List.getElem?_drop, List.getElem?_take] at hk
    split at hk
    · rename_i hlt
      obtain ⟨p, hp, hcl⟩ := hcell _ _ hk
      have hne : ¬ cap = i := by
        intro he
        have : j = i := by omega
        subst this
        omega
      rw [if_neg hne, hp]
      refine ⟨p.add (i * size), rfl, ?_⟩
      have hps := hspot p hp (by omega)
      obtain ⟨pb, po, ps⟩ := p
      simp only at hps
      subst hps
      by_cases h0 : i * size = 0
      · simp only [Addr.add, h0, if_true]
        rw [h0, Nat.zero_add] at hcl
        exact hcl
      · simp only [Addr.add, h0, if_false]
        rw [Nat.add_assoc]; exact hcl
    · cases hk

/-! Values, constraints, predicates, attributes -/
def vC (v : V) : List Value := [.int .i64 v.k, .int .i64 v.n, .string (strOf v.s), .bool v.b]
theorem vC_len (v : V) : (vC v).length = 4 := rfl
def SetR (W : World) (h : Value) (l : List V) : Prop := Row W 4 h l.length (l.flatMap vC)
theorem SetR.ext {W W' : World} {h : Value} {l : List V} (k : SetR W h l) (hx : Ext W W') : SetR W' h l := Row.ext k hx
theorem SetR.nil (W : World) : SetR W (.slice none 0 0) [] := Row.nil W 4
theorem SetR.at {W : World} {a : Option Addr} {n cap : Nat} {l : List V} (h : SetR W (.slice a n cap) l) {k : Nat} (hk : k < l.length) :
    ∃ B o, a = some ⟨B, o, none⟩ ∧ W.cell? ⟨B, o + k * 4, none⟩ = some (.int .i64 l[k].k) ∧ W.cell? ⟨B, o + k * 4 + 1, none⟩ = some (.int .i64 l[k].n) ∧ W.cell? ⟨B, o + k * 4 + 2, none⟩ = some (.string (strOf l[k].s)) ∧ W.cell? ⟨B, o + k * 4 + 3, none⟩ = some (.bool l[k].b) := by
  obtain ⟨B, o, rfl⟩ := Row.base h (by omega) (by decide)
  have g := fun j hj => flat_get vC 4 vC_len l k hk j hj
  exact ⟨B, o, rfl, Row.cellAt h (g 0 (by decide)) (by omega), Row.cellAt h (g 1 (by decide)) (by omega), Row.cellAt h (g 2 (by decide)) (by omega), Row.cellAt h (g 3 (by decide)) (by omega)⟩

/-- A constraint where it stands: its set's slice. -/
structure CS where
  c : C
  h : Value
def csC (x : CS) : List Value := [.string (strOf x.c.name), .int .i64 x.c.op, .int .i64 x.c.v.k, .int .i64 x.c.v.n, .string (strOf x.c.v.s), .bool x.c.v.b, x.h]
theorem csC_len (x : CS) : (csC x).length = 7 := rfl
def PredR (W : World) (v : Value) (p : List C) : Prop := ∃ us : List CS, us.map CS.c = p ∧ Row W 7 v us.length (us.flatMap csC) ∧ ∀ x ∈ us, SetR W x.h x.c.set
theorem PredR.ext {W W' : World} {v : Value} {p : List C} (h : PredR W v p) (hx : Ext W W') : PredR W' v p := by
  obtain ⟨us, h1, h2, h3⟩ := h
  exact ⟨us, h1, h2.ext hx, fun x hm => (h3 x hm).ext hx⟩
theorem PredR.nil (W : World) : PredR W (.slice none 0 0) [] := ⟨[], rfl, Row.nil W 7, fun _ h => by cases h⟩
theorem PredR.shape {W : World} {v : Value} {p : List C} (h : PredR W v p) : ∃ a cap, v = .slice a p.length cap ∧ p.length ≤ cap ∧ cap ≤ maxLen := by
  obtain ⟨us, rfl, h2, _⟩ := h
  obtain ⟨a, cap, e, h3, h4⟩ := Row.shape h2
  exact ⟨a, cap, by rw [e, List.length_map], by rw [List.length_map]; exact h3, h4⟩
theorem PredR.at {W : World} {a : Option Addr} {n cap : Nat} {p : List C} (h : PredR W (.slice a n cap) p) {k : Nat} (hk : k < p.length) :
    ∃ B o sa sc, a = some ⟨B, o, none⟩ ∧ W.cell? ⟨B, o + k * 7, none⟩ = some (.string (strOf p[k].name)) ∧ W.cell? ⟨B, o + k * 7 + 1, none⟩ = some (.int .i64 p[k].op) ∧ W.cell? ⟨B, o + k * 7 + 2, none⟩ = some (.int .i64 p[k].v.k) ∧ W.cell? ⟨B, o + k * 7 + 3, none⟩ = some (.int .i64 p[k].v.n) ∧
      W.cell? ⟨B, o + k * 7 + 4, none⟩ = some (.string (strOf p[k].v.s)) ∧ W.cell? ⟨B, o + k * 7 + 5, none⟩ = some (.bool p[k].v.b) ∧ W.cell? ⟨B, o + k * 7 + 6, none⟩ = some (.slice sa p[k].set.length sc) ∧ SetR W (.slice sa p[k].set.length sc) p[k].set := by
  obtain ⟨us, rfl, h2, h3⟩ := h
  have hk' : k < us.length := by simpa using hk
  obtain ⟨B, o, rfl⟩ := Row.base h2 (by omega) (by decide)
  have g := fun j hj => flat_get csC 7 csC_len us k hk' j hj
  have e : (us.map CS.c)[k] = us[k].c := by simp
  have hs := h3 us[k] (List.getElem_mem hk')
  obtain ⟨sa, sc, es, _, _⟩ := Row.shape hs
  rw [e]
  have g6 := Row.cellAt h2 (g 6 (by decide)) (by omega)
  rw [es] at hs
  refine ⟨B, o, sa, sc, rfl, Row.cellAt h2 (g 0 (by decide)) (by omega), Row.cellAt h2 (g 1 (by decide)) (by omega), Row.cellAt h2 (g 2 (by decide)) (by omega), Row.cellAt h2 (g 3 (by decide)) (by omega), Row.cellAt h2 (g 4 (by decide)) (by omega), Row.cellAt h2 (g 5 (by decide)) (by omega), ?_, hs⟩
  rw [← es]; exact g6
theorem PredR.mk {W : World} {v : Value} (us : List CS) (h : Row W 7 v us.length (us.flatMap csC)) (hs : ∀ x ∈ us, SetR W x.h x.c.set) : PredR W v (us.map CS.c) := ⟨us, rfl, h, hs⟩

def aC (x : List UInt8 × V) : List Value := [.string (strOf x.1), .int .i64 x.2.k, .int .i64 x.2.n, .string (strOf x.2.s), .bool x.2.b]
theorem aC_len (x : List UInt8 × V) : (aC x).length = 5 := rfl
def AttrR (W : World) (v : Value) (l : List (List UInt8 × V)) : Prop := Row W 5 v l.length (l.flatMap aC)
theorem AttrR.ext {W W' : World} {v : Value} {l : List (List UInt8 × V)} (h : AttrR W v l) (hx : Ext W W') : AttrR W' v l := Row.ext h hx
theorem AttrR.nil (W : World) : AttrR W (.slice none 0 0) [] := Row.nil W 5
theorem AttrR.at {W : World} {a : Option Addr} {n cap : Nat} {l : List (List UInt8 × V)} (h : AttrR W (.slice a n cap) l) {k : Nat} (hk : k < l.length) :
    ∃ B o, a = some ⟨B, o, none⟩ ∧ W.cell? ⟨B, o + k * 5, none⟩ = some (.string (strOf l[k].1)) ∧ W.cell? ⟨B, o + k * 5 + 1, none⟩ = some (.int .i64 l[k].2.k) ∧ W.cell? ⟨B, o + k * 5 + 2, none⟩ = some (.int .i64 l[k].2.n) ∧ W.cell? ⟨B, o + k * 5 + 3, none⟩ = some (.string (strOf l[k].2.s)) ∧ W.cell? ⟨B, o + k * 5 + 4, none⟩ = some (.bool l[k].2.b) := by
  obtain ⟨B, o, rfl⟩ := Row.base h (by omega) (by decide)
  have g := fun j hj => flat_get aC 5 aC_len l k hk j hj
  exact ⟨B, o, rfl, Row.cellAt h (g 0 (by decide)) (by omega), Row.cellAt h (g 1 (by decide)) (by omega), Row.cellAt h (g 2 (by decide)) (by omega), Row.cellAt h (g 3 (by decide)) (by omega), Row.cellAt h (g 4 (by decide)) (by omega)⟩

end Go.Proofs.YtckigoeomkphhaaGreat

namespace Go.Proofs.YtckigoeomkphhaaGreat
open Go.RowKit Go.ChangeShapes Go.WideShapes Go.Deep

theorem own : ownKnob Tryz.prog.godebug = none := by kernel_rfl
theorem laidOut : laidOutB Tryz.prog = true := by kernel_rfl

def okN (n : Int) : Prop := -9223372036854775808 ≤ n ∧ n ≤ 9223372036854775807
structure okV (v : V) : Prop where
  k : okN v.k
  n : okN v.n
  s : v.s.length ≤ maxLen
structure okC (c : C) : Prop where
  name : c.name.length ≤ maxLen
  op : okN c.op
  v : okV c.v
  set : ∀ x ∈ c.set, okV x
structure okA (a : List UInt8 × V) : Prop where
  name : a.1.length ≤ maxLen
  v : okV a.2

theorem list_of {α : Type} {p : Nat → α → Prop} : ∀ n, (∀ i, i < n → ∃ x, p i x) → ∃ l : List α, l.length = n ∧ ∀ i (h : i < l.length), p i l[i]
  | 0, _ => ⟨[], rfl, fun i h => absurd h (Nat.not_lt_zero _)⟩
  | n + 1, h => by
    obtain ⟨l, hl, hp⟩ := list_of n fun i hi => h i (Nat.lt_succ_of_lt hi)
    obtain ⟨x, hx⟩ := h n (Nat.lt_succ_self n)
    refine ⟨l ++ [x], by simp [hl], fun i hi => ?_⟩
    rw [List.length_append, List.length_singleton] at hi
    by_cases h' : i < l.length
    · rw [List.getElem_append_left h']; exact hp i h'
    · have e : i = l.length := by omega
      subst e
      rw [List.getElem_append_right (Nat.le_refl _)]
      simp only [Nat.sub_self, List.getElem_cons_zero, hl]
      exact hx

theorem row_of_cells {α : Type} {W : World} {a : Addr} {len cap base : Nat} (f : α → List Value) (sz : Nat) (hf : ∀ x, (f x).length = sz) (hsz : 0 < sz) (hl : len ≤ cap) (hm : cap ≤ maxLen) (l : List α) (hln : l.length = cap)
    (hc : ∀ i (h : i < l.length), W.cells? base (a.add (i * sz)) sz = some (f l[i])) : Row W sz (.slice (some a) len cap) len ((l.take len).flatMap f) := by
  have hat : ∀ i (h : i < l.length) j, j < sz → W.cell? (a.add (i * sz + j)) = (f l[i])[j]? := fun i h j hj => by
    obtain ⟨_, _, h3⟩ := World.cells?_some (hc i h)
    rw [← h3 j hj, Go.Deep.add_add]
  have hspot : 0 < cap → a.spot = none := fun h => by
    have h1 := hat 0 (by omega) 0 hsz
    rw [List.getElem?_eq_getElem (by rw [hf]; exact hsz)] at h1
    simpa [Addr.add] using World.cell?_spot h1
  refine ⟨by rw [flat_len f sz hf, List.length_take]; rw [Nat.min_eq_left (by omega)], some a, cap, rfl, hl, hm, by simp, fun p hp h0 => by simp at hp; subst hp; exact hspot h0, fun j u hj => ⟨a, rfl, ?_⟩⟩
  have hjl : j < ((l.take len).flatMap f).length := by
    rcases Nat.lt_or_ge j ((l.take len).flatMap f).length with h | h
    · exact h
    · rw [List.getElem?_eq_none h] at hj; cases hj
  rw [flat_len f sz hf, List.length_take, Nat.min_eq_left (by omega)] at hjl
  have hd : j / sz < len := by rw [Nat.div_lt_iff_lt_mul hsz]; exact hjl
  have hmod : j % sz < sz := Nat.mod_lt _ hsz
  have e : j / sz * sz + j % sz = j := by rw [Nat.mul_comm]; exact Nat.div_add_mod j sz
  have hg := flat_get f sz hf (l.take len) (j / sz) (by rw [List.length_take]; omega) (j % sz) hmod
  rw [e, hj] at hg
  have h1 := hat (j / sz) (by omega) (j % sz) hmod
  rw [e] at h1
  rw [List.getElem_take] at hg
  rw [← hg] at h1
  have hps := hspot (Nat.lt_of_lt_of_le (Nat.lt_of_le_of_lt (Nat.zero_le _) hd) hl)
  have hadd : a.add j = ⟨a.block, a.off + j, none⟩ := by
    obtain ⟨xb, xo, xs⟩ := a
    simp only at hps; subst hps
    unfold Addr.add; split <;> simp_all
  rw [← hadd]; exact h1

section
variable {H : Type} {enc : TypeId × Value → H} {W : World} {base : Nat} {held : Bool}

theorem strOf_of (s : ByteArray) : strOf s.data.toList = s := by cases s; rfl
theorem str_len (s : ByteArray) : s.data.toList.length = s.size := by cases s; exact Array.length_toList
theorem i64_ok {n : Int} (h : (Lit.int .i64 n).wf = true) : okN n := by
  have := bounds_i64 h
  unfold okN; omega

set_option maxRecDepth 100000 in
theorem open_vals {fuel : Nat} {cs : List Value} {x : DataW H × List MemPlace} (h : DataW.trod enc Tryz.prog W base (fun _ => true) held fuel 49 cs = some x) : ∃ v : V, cs = vC v ∧ okV v := by
  obtain ⟨xs, n, _, _, hl, hx, hf⟩ := DataW.trod_struct Tryz.underlying49 h
  have hC : Tryz.prog.cellsOf 49 = 4 := by kernel_rfl
  rw [hC] at hl
  match cs, hl with
  | [c0, c1, c2, c3], _ =>
    match xs, hx with
    | [y0, y1, y2, y3], _ =>
      have q3 : Tryz.prog.cellsOf 3 = 1 := by kernel_rfl
      have q2 : Tryz.prog.cellsOf 2 = 1 := by kernel_rfl
      have q9 : Tryz.prog.cellsOf 9 = 1 := by kernel_rfl
      have q4 : Tryz.prog.cellsOf 4 = 1 := by kernel_rfl
      have h0 := hf 0 _ rfl
      have h1 := hf 1 _ rfl
      have h2 := hf 2 _ rfl
      have h3 := hf 3 _ rfl
      simp only [q3, q2, q9, q4, List.getElem_toArray, List.getElem_cons_zero, List.getElem_cons_succ, List.getElem?_cons_zero, List.getElem?_cons_succ, List.drop_zero, List.drop_succ_cons, List.take_succ_cons, List.take_zero] at h0 h1 h2 h3
      obtain ⟨k, e0, _, w0⟩ := DataW.trod_int Tryz.underlying3 h0
      obtain ⟨n, e1, _, w1⟩ := DataW.trod_int Tryz.underlying2 h1
      obtain ⟨s, e2, _, w2⟩ := DataW.trod_string Tryz.underlying9 h2
      obtain ⟨b, e3, _⟩ := DataW.trod_bool Tryz.underlying4 h3
      simp only [List.cons.injEq, and_true] at e0 e1 e2 e3
      subst e0; subst e1; subst e2; subst e3
      refine ⟨⟨k, n, s.data.toList, b⟩, ?_, i64_ok w0, i64_ok w1, by rw [str_len]; exact w2⟩
      unfold vC; rw [strOf_of]

set_option maxRecDepth 100000 in
theorem open_set {fuel : Nat} {h : Value} {x : DataW H × List MemPlace} (ht : DataW.trod enc Tryz.prog W base (fun _ => true) held fuel 50 [h] = some x) : ∃ l : List V, SetR W h l ∧ ∀ v ∈ l, okV v := by
  rcases open_slice Tryz.underlying50 ht with ⟨e, _⟩ | ⟨a, len, cap, m, n, D, Pl, e, _, hl, hm, hmm, _, hi⟩
  · simp only [List.cons.injEq, and_true] at e
    subst e
    exact ⟨[], SetR.nil W, fun _ h => by cases h⟩
  · simp only [List.cons.injEq, and_true] at e
    subst e
    simp only [if_true] at hmm
    subst hmm
    have hC : Tryz.prog.cellsOf 49 = 4 := by kernel_rfl
    rw [hC] at hi
    obtain ⟨l, hln, hp⟩ := list_of (p := fun i (v : V) => W.cells? base (a.add (i * 4)) 4 = some (vC v) ∧ okV v) m fun i hi' => by
      obtain ⟨cs, h1, h2⟩ := hi i hi'
      obtain ⟨v, rfl, hv⟩ := open_vals h2
      exact ⟨v, h1, hv⟩
    have hr := row_of_cells vC 4 vC_len (by decide) hl hm l hln fun i hi => (hp i hi).1
    refine ⟨l.take len, ?_, fun v hv => ?_⟩
    · unfold SetR
      have e : (l.take len).length = len := by rw [List.length_take]; omega
      rw [e]; exact hr
    · obtain ⟨i, hi, rfl⟩ := List.getElem_of_mem (List.mem_of_mem_take hv)
      exact (hp i hi).2

set_option maxRecDepth 100000 in
theorem open_cons {fuel : Nat} {cs : List Value} {x : DataW H × List MemPlace} (h : DataW.trod enc Tryz.prog W base (fun _ => true) held fuel 52 cs = some x) : ∃ c : CS, cs = csC c ∧ SetR W c.h c.c.set ∧ okC c.c := by
  obtain ⟨xs, n, _, _, hl, hx, hf⟩ := DataW.trod_struct Tryz.underlying52 h
  have hC : Tryz.prog.cellsOf 52 = 7 := by kernel_rfl
  rw [hC] at hl
  match cs, hl with
  | [c0, c1, c2, c3, c4, c5, c6], _ =>
    match xs, hx with
    | [y0, y1, y2, y3], _ =>
      have q3 : Tryz.prog.cellsOf 3 = 1 := by kernel_rfl
      have q9 : Tryz.prog.cellsOf 9 = 1 := by kernel_rfl
      have q28 : Tryz.prog.cellsOf 49 = 4 := by kernel_rfl
      have q29 : Tryz.prog.cellsOf 50 = 1 := by kernel_rfl
      have h0 := hf 0 _ rfl
      have h1 := hf 1 _ rfl
      have h2 := hf 2 _ rfl
      have h3 := hf 3 _ rfl
      simp only [q3, q9, q28, q29, List.getElem_toArray, List.getElem_cons_zero, List.getElem_cons_succ, List.getElem?_cons_zero, List.getElem?_cons_succ, List.drop_zero, List.drop_succ_cons, List.take_succ_cons, List.take_zero] at h0 h1 h2 h3
      obtain ⟨s, e0, _, w0⟩ := DataW.trod_string Tryz.underlying9 h0
      obtain ⟨k, e1, _, w1⟩ := DataW.trod_int Tryz.underlying3 h1
      obtain ⟨v, e2, w2⟩ := open_vals h2
      obtain ⟨l, e3, w3⟩ := open_set h3
      simp only [vC, List.cons.injEq, and_true] at e0 e1 e2
      obtain ⟨rfl, rfl, rfl, rfl⟩ := e2
      subst e0; subst e1
      refine ⟨⟨⟨s.data.toList, k, v, l⟩, c6⟩, ?_, e3, ⟨by rw [str_len]; exact w0, i64_ok w1, w2, w3⟩⟩
      unfold csC; rw [strOf_of]

set_option maxRecDepth 100000 in
theorem open_pred {fuel : Nat} {h : Value} {x : DataW H × List MemPlace} (ht : DataW.trod enc Tryz.prog W base (fun _ => true) held fuel 28 [h] = some x) : ∃ p : List C, PredR W h p ∧ ∀ c ∈ p, okC c := by
  rcases open_slice Tryz.underlying28 ht with ⟨e, _⟩ | ⟨a, len, cap, m, n, D, Pl, e, _, hl, hm, hmm, _, hi⟩
  · simp only [List.cons.injEq, and_true] at e
    subst e
    exact ⟨[], PredR.nil W, fun _ h => by cases h⟩
  · simp only [List.cons.injEq, and_true] at e
    subst e
    simp only [if_true] at hmm
    subst hmm
    have hC : Tryz.prog.cellsOf 52 = 7 := by kernel_rfl
    rw [hC] at hi
    obtain ⟨l, hln, hp⟩ := list_of (p := fun i (c : CS) => W.cells? base (a.add (i * 7)) 7 = some (csC c) ∧ SetR W c.h c.c.set ∧ okC c.c) m fun i hi' => by
      obtain ⟨cs, h1, h2⟩ := hi i hi'
      obtain ⟨v, rfl, hv⟩ := open_cons h2
      exact ⟨v, h1, hv⟩
    have hr := row_of_cells csC 7 csC_len (by decide) hl hm l hln fun i hi => (hp i hi).1
    have e : (l.take len).length = len := by rw [List.length_take]; omega
    have hall : ∀ x ∈ l.take len, SetR W x.h x.c.set ∧ okC x.c := fun x hx => by
      obtain ⟨i, hi, rfl⟩ := List.getElem_of_mem (List.mem_of_mem_take hx)
      exact (hp i hi).2
    refine ⟨(l.take len).map CS.c, PredR.mk _ (by rw [e]; exact hr) fun x hx => (hall x hx).1, fun c hc => ?_⟩
    obtain ⟨x, hx, rfl⟩ := List.mem_map.1 hc
    exact (hall x hx).2

set_option maxRecDepth 100000 in
theorem open_attr {fuel : Nat} {cs : List Value} {x : DataW H × List MemPlace} (h : DataW.trod enc Tryz.prog W base (fun _ => true) held fuel 66 cs = some x) : ∃ a : List UInt8 × V, cs = aC a ∧ okA a := by
  obtain ⟨xs, n, _, _, hl, hx, hf⟩ := DataW.trod_struct Tryz.underlying66 h
  have hC : Tryz.prog.cellsOf 66 = 5 := by kernel_rfl
  rw [hC] at hl
  match cs, hl with
  | [c0, c1, c2, c3, c4], _ =>
    match xs, hx with
    | [y0, y1], _ =>
      have q9 : Tryz.prog.cellsOf 9 = 1 := by kernel_rfl
      have q28 : Tryz.prog.cellsOf 49 = 4 := by kernel_rfl
      have h0 := hf 0 _ rfl
      have h1 := hf 1 _ rfl
      simp only [q9, q28, List.getElem_toArray, List.getElem_cons_zero, List.getElem_cons_succ, List.getElem?_cons_zero, List.getElem?_cons_succ, List.drop_zero, List.drop_succ_cons, List.take_succ_cons, List.take_zero] at h0 h1
      obtain ⟨s, e0, _, w0⟩ := DataW.trod_string Tryz.underlying9 h0
      obtain ⟨v, e1, w1⟩ := open_vals h1
      simp only [vC, List.cons.injEq, and_true] at e0 e1
      obtain ⟨rfl, rfl, rfl, rfl⟩ := e1
      subst e0
      refine ⟨(s.data.toList, v), ?_, by rw [str_len]; exact w0, w1⟩
      unfold aC; rw [strOf_of]

set_option maxRecDepth 100000 in
theorem open_attrs {fuel : Nat} {h : Value} {x : DataW H × List MemPlace} (ht : DataW.trod enc Tryz.prog W base (fun _ => true) held fuel 32 [h] = some x) : ∃ l : List (List UInt8 × V), AttrR W h l ∧ ∀ a ∈ l, okA a := by
  rcases open_slice Tryz.underlying32 ht with ⟨e, _⟩ | ⟨a, len, cap, m, n, D, Pl, e, _, hl, hm, hmm, _, hi⟩
  · simp only [List.cons.injEq, and_true] at e
    subst e
    exact ⟨[], AttrR.nil W, fun _ h => by cases h⟩
  · simp only [List.cons.injEq, and_true] at e
    subst e
    simp only [if_true] at hmm
    subst hmm
    have hC : Tryz.prog.cellsOf 66 = 5 := by kernel_rfl
    rw [hC] at hi
    obtain ⟨l, hln, hp⟩ := list_of (p := fun i (v : List UInt8 × V) => W.cells? base (a.add (i * 5)) 5 = some (aC v) ∧ okA v) m fun i hi' => by
      obtain ⟨cs, h1, h2⟩ := hi i hi'
      obtain ⟨v, rfl, hv⟩ := open_attr h2
      exact ⟨v, h1, hv⟩
    have hr := row_of_cells aC 5 aC_len (by decide) hl hm l hln fun i hi => (hp i hi).1
    refine ⟨l.take len, ?_, fun v hv => ?_⟩
    · unfold AttrR
      have e : (l.take len).length = len := by rw [List.length_take]; omega
      rw [e]; exact hr
    · obtain ⟨i, hi, rfl⟩ := List.getElem_of_mem (List.mem_of_mem_take hv)
      exact (hp i hi).2

set_option maxRecDepth 100000 in
theorem open_event {fuel : Nat} {cs : List Value} {x : DataW H × List MemPlace} (h : DataW.trod enc Tryz.prog W base (fun _ => true) held fuel 34 cs = some x) : ∃ (key : List UInt8) (va : Value) (l : List (List UInt8 × V)), cs = [.string (strOf key), va] ∧ AttrR W va l ∧ key.length ≤ maxLen ∧ ∀ a ∈ l, okA a := by
  obtain ⟨xs, n, _, _, hl, hx, hf⟩ := DataW.trod_struct Tryz.underlying34 h
  have hC : Tryz.prog.cellsOf 34 = 2 := by kernel_rfl
  rw [hC] at hl
  match cs, hl with
  | [c0, c1], _ =>
    match xs, hx with
    | [y0, y1], _ =>
      have q9 : Tryz.prog.cellsOf 9 = 1 := by kernel_rfl
      have q24 : Tryz.prog.cellsOf 32 = 1 := by kernel_rfl
      have h0 := hf 0 _ rfl
      have h1 := hf 1 _ rfl
      simp only [q9, q24, List.getElem_toArray, List.getElem_cons_zero, List.getElem_cons_succ, List.getElem?_cons_zero, List.getElem?_cons_succ, List.drop_zero, List.drop_succ_cons, List.take_succ_cons, List.take_zero] at h0 h1
      obtain ⟨s, e0, _, w0⟩ := DataW.trod_string Tryz.underlying9 h0
      obtain ⟨l, e1, w1⟩ := open_attrs h1
      simp only [List.cons.injEq, and_true] at e0
      subst e0
      refine ⟨s.data.toList, c1, l, ?_, e1, by rw [str_len]; exact w0, w1⟩
      rw [strOf_of]

/-! The same, of an argument. -/
set_option maxRecDepth 100000 in
theorem arg_pred {b0 : Nat} {v : Value} {d : DataW H} {p : List MemPlace} (hv : Value.okWide Tryz.prog W .any b0 28 v) (h : DataW.Trod enc Tryz.prog W base (fun _ => true) held 28 v d p) : ∃ p : List C, PredR W v p ∧ ∀ c ∈ p, okC c := by
  obtain ⟨a, len, cap, rfl⟩ := okWide_slice Tryz.underlying28 hv
  obtain ⟨fuel, hf⟩ := h
  exact open_pred hf
set_option maxRecDepth 100000 in
theorem arg_value {b0 : Nat} {v : Value} {d : DataW H} {p : List MemPlace} (hv : Value.okWide Tryz.prog W .any b0 49 v) (h : DataW.Trod enc Tryz.prog W base (fun _ => true) held 49 v d p) : ∃ x : V, v = .agg #[.int .i64 x.k, .int .i64 x.n, .string (strOf x.s), .bool x.b] ∧ okV x := by
  obtain ⟨cs, rfl, hsz⟩ := okWide_struct Tryz.underlying49 hv
  obtain ⟨fuel, hf⟩ := h
  obtain ⟨x, e, hx⟩ := open_vals hf
  refine ⟨x, ?_, hx⟩
  obtain ⟨l⟩ := cs
  simp only [Value.cells] at e
  subst e; rfl
set_option maxRecDepth 100000 in
theorem arg_event {b0 : Nat} {v : Value} {d : DataW H} {p : List MemPlace} (hv : Value.okWide Tryz.prog W .any b0 34 v) (h : DataW.Trod enc Tryz.prog W base (fun _ => true) held 34 v d p) : ∃ (key : List UInt8) (va : Value) (l : List (List UInt8 × V)), v = .agg #[.string (strOf key), va] ∧ AttrR W va l ∧ key.length ≤ maxLen ∧ ∀ a ∈ l, okA a := by
  obtain ⟨cs, rfl, hsz⟩ := okWide_struct Tryz.underlying34 hv
  obtain ⟨fuel, hf⟩ := h
  obtain ⟨key, va, l, e, h1, h2, h3⟩ := open_event hf
  refine ⟨key, va, l, ?_, h1, h2, h3⟩
  obtain ⟨l⟩ := cs
  simp only [Value.cells] at e
  subst e; rfl
set_option maxRecDepth 100000 in
theorem arg_name {b0 : Nat} {v : Value} {d : DataW H} {p : List MemPlace} (hv : Value.okWide Tryz.prog W .any b0 9 v) (h : DataW.Trod enc Tryz.prog W base (fun _ => true) held 9 v d p) : ∃ s : List UInt8, v = .string (strOf s) ∧ s.length ≤ maxLen := by
  obtain ⟨fuel, hf⟩ := h
  obtain ⟨s, e, _, hs⟩ := DataW.trod_string Tryz.underlying9 hf
  cases v with
  | agg cs => simp [Value.okWide, Cell.okWide, Cell.ok, Tryz.underlying9] at hv
  | string t =>
    simp only [Value.cells, List.cons.injEq, Value.string.injEq, and_true] at e
    subst e
    exact ⟨t.data.toList, by rw [strOf_of], by rw [str_len]; exact hs⟩
  | _ => simp [Value.cells] at e
end
end Go.Proofs.YtckigoeomkphhaaGreat

namespace Go.Proofs.YtckigoeomkphhaaGreat
open Go.RowKit

theorem own_ext {w w' : World} {base size n : Nat} {e : TypeId} {v : Value} {xs : List Value} (h : w.ownsRow base e size v n xs) (hx : Ext w w') : w'.ownsRow base e size v n xs := by
  refine ⟨h.1, ?_⟩
  rcases h.2 with h0 | ⟨g, cap, cur, e0, hb, hg, hn, hm, hs, ht⟩
  · exact .inl h0
  · exact .inr ⟨g, cap, cur, e0, hb, by rw [hx.block g (Array.getElem?_eq_some_iff.1 hg).1]; exact hg, hn, hm, hs, ht⟩
theorem grown_ext {w w' w2 : World} {row : Option Nat} (h : w.grownBy w' row) (hx : Ext w' w2) : w.grownBy w2 row :=
  ⟨hx.os.trans h.os, hx.tape.trans h.tape, hx.output.trans h.output, Nat.le_trans h.size hx.size, fun k hk hne => (hx.block k (Nat.lt_of_lt_of_le hk h.size)).trans (h.block k hk hne)⟩
theorem own_keep {w w' : World} {base size n : Nat} {e : TypeId} {v : Value} {xs : List Value} {row : Option Nat} (h : w.ownsRow base e size v n xs) (hg : w.grownBy w' row) (hne : ∀ k, v.ownBlock = some k → row ≠ some k) : w'.ownsRow base e size v n xs := by
  refine ⟨h.1, ?_⟩
  rcases h.2 with h0 | ⟨g, cap, cur, rfl, hb, hgg, hn, hm, hs, ht⟩
  · exact .inl h0
  · exact .inr ⟨g, cap, cur, rfl, hb, by rw [hg.block g (Array.getElem?_eq_some_iff.1 hgg).1 (fun e => hne g rfl e.symm)]; exact hgg, hn, hm, hs, ht⟩
theorem own_low {w : World} {base b2 size n : Nat} {e : TypeId} {v : Value} {xs : List Value} (h : w.ownsRow base e size v n xs) (hb : b2 ≤ base) : w.ownsRow b2 e size v n xs := by
  refine ⟨h.1, ?_⟩
  rcases h.2 with h0 | ⟨g, cap, cur, rfl, hb', hgg, hn, hm, hs, ht⟩
  · exact .inl h0
  · exact .inr ⟨g, cap, cur, rfl, Nat.le_trans hb hb', hgg, hn, hm, hs, ht⟩
/-- Rows of two types lie apart. -/
theorem own_apart {w : World} {base b2 size s2 n m : Nat} {e e2 : TypeId} {v u : Value} {xs ys : List Value} (h : w.ownsRow base e size v n xs) (k : w.ownsRow b2 e2 s2 u m ys) (he : e ≠ e2) : ∀ q, u.ownBlock = some q → v.ownBlock ≠ some q := by
  intro q hq hv
  rcases h.2 with ⟨rfl, _⟩ | ⟨g, cap, cur, rfl, _, hg, _⟩
  · simp [Value.ownBlock] at hv
  · rcases k.2 with ⟨rfl, _⟩ | ⟨g2, cap2, cur2, rfl, _, hg2, _⟩
    · simp [Value.ownBlock] at hq
    · simp only [Value.ownBlock, Option.some.injEq] at hq hv
      subst hq
      subst hv
      rw [hg] at hg2
      cases hg2
      exact he rfl
theorem own_ne {w : World} {base size n b : Nat} {e t : TypeId} {v : Value} {xs : List Value} {c : Array Value} {fr : Nat × Nat} (h : w.ownsRow base e size v n xs) (hb : w.heap[b]? = some (.cells c t fr)) (he : e ≠ t) : v.ownBlock ≠ some b := by
  intro hv
  rcases h.2 with ⟨rfl, _⟩ | ⟨g, cap, cur, rfl, _, hg, _⟩
  · simp [Value.ownBlock] at hv
  · simp only [Value.ownBlock, Option.some.injEq] at hv
    subst hv
    rw [hg] at hb
    cases hb
    exact he rfl
/-- A row of two worlds' own: what was made later lies apart from what was there. -/
theorem own_later {w w' : World} {b size n : Nat} {e : TypeId} {v : Value} {xs : List Value} (h : w.ownsRow b e size v n xs) {k : Nat} (hk : w'.heap.size ≤ b) (hl : k < w'.heap.size) : v.ownBlock ≠ some k := by
  intro hv
  rcases h.2 with ⟨rfl, _⟩ | ⟨g, cap, cur, rfl, hb, hg, _⟩
  · simp [Value.ownBlock] at hv
  · simp only [Value.ownBlock, Option.some.injEq] at hv
    omega
theorem own_none (w : World) (base : Nat) (e : TypeId) (size : Nat) : w.ownsRow base e size (.slice none 0 0) 0 [] := ⟨by simp, .inl ⟨rfl, rfl⟩⟩
theorem own_len_le {w : World} {base size n : Nat} {e : TypeId} {v : Value} {xs : List Value} (h : w.ownsRow base e size v n xs) : n ≤ maxLen := Row.len_le (Row.of_own h)
theorem own_shape {w : World} {base size n : Nat} {e : TypeId} {v : Value} {xs : List Value} (h : w.ownsRow base e size v n xs) : ∃ a cap, v = .slice a n cap ∧ n ≤ cap ∧ cap ≤ maxLen := by obtain ⟨_, a, cap, h1, h2, h3, _⟩ := Row.of_own h; exact ⟨a, cap, h1, h2, h3⟩
end Go.Proofs.YtckigoeomkphhaaGreat

namespace Go.Proofs.YtckigoeomkphhaaGreat
open Go.RowKit

/-- A constraint's set, made by the call from block b on. -/
def SetO (b : Nat) (w : World) (x : CS) : Prop := w.ownsRow b 49 4 x.h x.c.set.length (x.c.set.flatMap vC)
theorem SetO.set {b : Nat} {w : World} {x : CS} (h : SetO b w x) : SetR w x.h x.c.set := Row.of_own h
theorem SetO.ext {b : Nat} {w w' : World} {x : CS} (h : SetO b w x) (hx : Ext w w') : SetO b w' x := own_ext h hx
theorem SetO.keep {b base n : Nat} {w w' : World} {x : CS} {v : Value} {xs : List Value} (h : SetO b w x) (hv : w.ownsRow base 52 7 v n xs) (hg : w.grownBy w' v.ownBlock) : SetO b w' x := own_keep h hg (own_apart hv h (by decide))
theorem SetO.one {b : Nat} {w : World} {x : CS} (h : SetO b w x) : x.h.oneCell' = true := by obtain ⟨a, c, e, _⟩ := Row.shape h.set; rw [e]; rfl
theorem SetO.ne {b base n : Nat} {w : World} {x : CS} {v : Value} {xs : List Value} (h : SetO b w x) (hv : w.ownsRow base 52 7 v n xs) (hs : v.ownBlock ≠ none) : x.h.ownBlock ≠ v.ownBlock := by
  cases hq : x.h.ownBlock with
  | none => exact fun e => hs e.symm
  | some q => exact fun e => own_apart hv h (by decide) q hq e.symm
end Go.Proofs.YtckigoeomkphhaaGreat

namespace Go.Proofs.YtckigoeomkphhaaGreat
open Go.RowKit Go.MapKept Go.ChangeMaps

/-- Block b is a map whose entries, in the order in which they were laid, are E; its keys are of kind d. -/
def MapE (w : World) (b : Nat) (d : TypeDesc) (E : List (Value × Value)) : Prop :=
  ∃ es clock, w.heap[b]? = some (.map es clock) ∧ Stamped es clock ∧ (∀ x ∈ es.toList, IsKey d x.key) ∧ es.toList.map (fun x => (x.key, x.val)) = E
/-- Block b alone has turned. -/
structure But (b : Nat) (w w' : World) : Prop where
  os : w'.os = w.os
  tape : w'.tape = w.tape
  output : w'.output = w.output
  size : w'.heap.size = w.heap.size
  drawn : w.drawn ≤ w'.drawn
  block : ∀ k, k ≠ b → w'.heap[k]? = w.heap[k]?
theorem But.refl (b : Nat) (w : World) : But b w w := ⟨rfl, rfl, rfl, rfl, Nat.le_refl _, fun _ _ => rfl⟩
theorem But.trans {b : Nat} {x y z : World} (h : But b x y) (k : But b y z) : But b x z :=
  ⟨k.os.trans h.os, k.tape.trans h.tape, k.output.trans h.output, k.size.trans h.size, Nat.le_trans h.drawn k.drawn, fun i hi => (k.block i hi).trans (h.block i hi)⟩
theorem But.ext {a w w' : World} {b : Nat} (h : But b w w') (hx : Ext a w) (hb : a.heap.size ≤ b) : Ext a w' :=
  ⟨h.os.trans hx.os, h.tape.trans hx.tape, h.output.trans hx.output, by rw [h.size]; exact hx.size, fun k hk => (h.block k (by omega)).trans (hx.block k hk)⟩
theorem But.map {w w' : World} {b c : Nat} {d : TypeDesc} {E : List (Value × Value)} (h : But b w w') (hm : MapE w c d E) (hc : c ≠ b) : MapE w' c d E := by
  obtain ⟨es, clock, h1, h2⟩ := hm
  exact ⟨es, clock, (h.block c hc).trans h1, h2⟩
theorem but_set {w : World} {b : Nat} {o : Obj} : But b w (setBlock w b o) :=
  ⟨rfl, rfl, rfl, by simp [setBlock], Nat.le_refl _, fun k hk => by unfold setBlock; exact Array.getElem?_setIfInBounds_ne (Ne.symm hk)⟩
theorem MapE.ext {w w' : World} {b : Nat} {d : TypeDesc} {E : List (Value × Value)} (h : MapE w b d E) (hx : Ext w w') : MapE w' b d E := by
  obtain ⟨es, clock, h1, h2⟩ := h
  exact ⟨es, clock, by rw [hx.block b (Array.getElem?_eq_some_iff.1 h1).1]; exact h1, h2⟩
theorem MapE.lt {w : World} {b : Nat} {d : TypeDesc} {E : List (Value × Value)} (h : MapE w b d E) : b < w.heap.size := by
  obtain ⟨es, clock, h1, _⟩ := h
  exact (Array.getElem?_eq_some_iff.1 h1).1
theorem MapE.made (w : World) (d : TypeDesc) : MapE (w.alloc (.map #[] 0)) w.heap.size d [] :=
  ⟨#[], 0, (MapKept.heap_alloc w _).1, stamped_empty 0, by simp, rfl⟩
theorem MapE.keys {w : World} {b : Nat} {d : TypeDesc} {E : List (Value × Value)} (h : MapE w b d E) : (∀ p ∈ E, IsKey d p.1) ∧ (E.map (·.1)).Nodup := by
  obtain ⟨es, clock, _, hs, hk, rfl⟩ := h
  refine ⟨fun p hp => ?_, ?_⟩
  · obtain ⟨x, hx, rfl⟩ := List.mem_map.1 hp
    exact hk x hx
  · rw [List.map_map]; exact hs.2.2

section
variable {P : Program}
theorem MapE.look {w : World} {b : Nat} {d : TypeDesc} {E : List (Value × Value)} (h : MapE w b d E) {t k e : TypeId} (ht : P.underlying t = some (.map k e)) (hd : P.underlying k = some d) {z : Value} (hz : (zeroValue e).run P w = .ok z w) {key : Value} (hk : IsKey d key) :
    ((∀ p ∈ E, p.1 ≠ key) ∧ (Instr.lookup t (.map (some b)) key false).run P w = .ok z w ∧ (Instr.lookup t (.map (some b)) key true).run P w = .ok (.tuple #[z, .bool false]) w) ∨
    ∃ (j : Nat) (v : Value), E[j]? = some (key, v) ∧ (Instr.lookup t (.map (some b)) key false).run P w = .ok v w ∧ (Instr.lookup t (.map (some b)) key true).run P w = .ok (.tuple #[v, .bool true]) w := by
  obtain ⟨es, clock, hb, hs, hks, rfl⟩ := h
  rcases findNow_spec hk es.toList 0 hks with ⟨h1, h2⟩ | ⟨j, x, h1, h2, h3⟩
  · refine .inl ⟨fun p hp => ?_, ?_, ?_⟩
    · obtain ⟨x, hx, rfl⟩ := List.mem_map.1 hp
      exact h2 x hx
    · simp [Instr.lookup, run_underlying ht, Go.MapKept.run_getObj_map hb, Go.MapKept.run_checkKey hd hk, Go.MapKept.run_findKey hd h1, hz, Result.andThen]
    · simp [Instr.lookup, run_underlying ht, Go.MapKept.run_getObj_map hb, Go.MapKept.run_checkKey hd hk, Go.MapKept.run_findKey hd h1, hz, Result.andThen]
  · refine .inr ⟨j, x.val, ?_, ?_, ?_⟩
    · rw [List.getElem?_map, h2]; simp [h3]
    · simp [Instr.lookup, run_underlying ht, Go.MapKept.run_getObj_map hb, Go.MapKept.run_checkKey hd hk, Go.MapKept.run_findKey hd h1, Result.andThen]
    · simp [Instr.lookup, run_underlying ht, Go.MapKept.run_getObj_map hb, Go.MapKept.run_checkKey hd hk, Go.MapKept.run_findKey hd h1, Result.andThen]

theorem map_modify_set (es : Array MapEntry) (j : Nat) (x : MapEntry) (hx : es[j]? = some x) (key v : Value) :
    (es.modify j fun e => { e with key := key, val := v }).toList.map (fun x => (x.key, x.val)) = (es.toList.map (fun x => (x.key, x.val))).set j (key, v) := by
  apply List.ext_getElem?
  intro i
  simp only [List.getElem?_map, Array.getElem?_toList, Array.getElem?_modify, List.getElem?_set, List.length_map]
  by_cases hji : j = i
  · subst hji
    rw [if_pos rfl, if_pos rfl, hx, if_pos (by rw [Array.length_toList]; exact (Array.getElem?_eq_some_iff.1 hx).1)]
    rfl
  · rw [if_neg hji, if_neg hji]
theorem MapE.put {w : World} {b : Nat} {d : TypeDesc} {E : List (Value × Value)} (h : MapE w b d E) {t k e : TypeId} (ht : P.underlying t = some (.map k e)) (hd : P.underlying k = some d) {key v : Value} (hk : IsKey d key) :
    ∃ w', (Instr.mapUpdate t (.map (some b)) key v).run P w = .ok () w' ∧ But b w w' ∧
      (((∀ p ∈ E, p.1 ≠ key) ∧ MapE w' b d (E ++ [(key, v)])) ∨ ∃ (j : Nat) (u : Value), E[j]? = some (key, u) ∧ MapE w' b d (E.set j (key, v))) := by
  obtain ⟨es, clock, hb, hs, hks, rfl⟩ := h
  rcases findNow_spec hk es.toList 0 hks with ⟨h1, h2⟩ | ⟨j, x, h1, h2, h3⟩
  · refine ⟨setBlock w b (.map (es.push { key, val := v, born := clock }) (clock + 1)), ?_, but_set, .inl ⟨fun p hp => ?_, _, _, heap_setBlock_same hb _, stamped_push hs h2, ?_, by simp⟩⟩
    · simp only [Instr.mapUpdate, Sem.run_bind, run_underlying ht, Go.MapKept.run_getObj_map hb, Go.MapKept.run_checkKey hd hk, Go.MapKept.run_findKey hd h1, Result.andThen]; simp [Go.MapKept.run_setObj_map _ hb, setBlock]
    · obtain ⟨x, hx, rfl⟩ := List.mem_map.1 hp
      exact h2 x hx
    · intro x hx
      simp only [Array.toList_push, List.mem_append, List.mem_singleton] at hx
      rcases hx with hx | rfl
      · exact hks x hx
      · exact hk
  · have hj : es[j]? = some x := by simpa using h2
    have hkey : ∀ e', es[j]? = some e' → ({ e' with key := key, val := v } : MapEntry).key = e'.key := fun e' he' => by rw [hj] at he'; cases he'; exact h3.symm
    refine ⟨setBlock w b (.map (es.modify j fun e => { e with key := key, val := v }) clock), ?_, but_set, .inr ⟨j, x.val, ?_, _, _, heap_setBlock_same hb _, stamped_modify hs _ _ (fun _ _ => rfl) (fun e' _ he' => hkey e' he'), isKey_modify hks _ _ hkey, map_modify_set es j x hj key v⟩⟩
    · simp only [Instr.mapUpdate, Sem.run_bind, run_underlying ht, Go.MapKept.run_getObj_map hb, Go.MapKept.run_checkKey hd hk, Go.MapKept.run_findKey hd h1, Result.andThen]; simp [hj, h3, run_keyThatStays hk, Go.MapKept.run_setObj_map _ hb, setBlock]
    · rw [List.getElem?_map, h2]; simp [h3]
theorem map_eraseIdx' {α β : Type} (f : α → β) : ∀ (l : List α) (j : Nat), (l.eraseIdx j).map f = (l.map f).eraseIdx j
  | [], j => by simp
  | x :: l, 0 => by simp
  | x :: l, j + 1 => by simp [map_eraseIdx' f l j]
theorem map_erase (es : Array MapEntry) (j : Nat) : (es.eraseIdxIfInBounds j).toList.map (fun x => (x.key, x.val)) = (es.toList.map (fun x => (x.key, x.val))).eraseIdx j := by
  unfold Array.eraseIdxIfInBounds
  split
  · rw [Array.toList_eraseIdx, map_eraseIdx']
  · rename_i h
    rw [List.eraseIdx_of_length_le]
    rw [List.length_map, Array.length_toList]; omega
theorem MapE.del {w : World} {b : Nat} {d : TypeDesc} {E : List (Value × Value)} (h : MapE w b d E) {t k e ty : TypeId} (ht : P.underlying t = some (.map k e)) (hd : P.underlying k = some d) {key : Value} (hk : IsKey d key) :
    ∃ w', (Builtin.delete_ #[t, k] ty #[.map (some b), key]).run P w = .ok (.tuple #[]) w' ∧ But b w w' ∧
      (((∀ p ∈ E, p.1 ≠ key) ∧ MapE w' b d E) ∨ ∃ (j : Nat) (u : Value), E[j]? = some (key, u) ∧ MapE w' b d (E.eraseIdx j)) := by
  obtain ⟨es, clock, hb, hs, hks, rfl⟩ := h
  rcases findNow_spec hk es.toList 0 hks with ⟨h1, h2⟩ | ⟨j, x, h1, h2, h3⟩
  · refine ⟨setBlock w b (.map es clock), ?_, but_set, .inl ⟨fun p hp => ?_, _, _, heap_setBlock_same hb _, hs, hks, rfl⟩⟩
    · simp [Builtin.delete_, run_underlying ht, Go.MapKept.run_getObj_map hb, Go.MapKept.run_checkKey hd hk, Go.MapKept.run_findKey hd h1, Go.MapKept.run_setObj_map _ hb, Result.andThen, setBlock]
    · obtain ⟨x, hx, rfl⟩ := List.mem_map.1 hp
      exact h2 x hx
  · refine ⟨setBlock w b (.map (es.eraseIdxIfInBounds j) clock), ?_, but_set, .inr ⟨j, x.val, ?_, _, _, heap_setBlock_same hb _, stamped_erase hs _, ?_, map_erase es j⟩⟩
    · simp [Builtin.delete_, run_underlying ht, Go.MapKept.run_getObj_map hb, Go.MapKept.run_checkKey hd hk, Go.MapKept.run_findKey hd h1, Go.MapKept.run_setObj_map _ hb, Result.andThen, setBlock]
    · rw [List.getElem?_map, h2]; simp [h3]
    · intro y hy
      have hs' : (es.eraseIdxIfInBounds j).toList.Sublist es.toList := by
        unfold Array.eraseIdxIfInBounds
        split
        · simp only [Array.toList_eraseIdx]; exact List.eraseIdx_sublist _ _
        · exact List.Sublist.refl _
      exact hks y (hs'.subset hy)

/-! At the operation, for the walk -/
theorem wpList_put {ops : Array Oper} {Q : Exit → Act → World → Prop} {a : Act} {w : World} {rest : List Oper} {o : Oper} (hg : o.guard = none) (m x v : Operand) (t : TypeId) (hop : o.op = .mapUpdate t m x v)
    {k e : TypeId} {d : TypeDesc} (ht : P.underlying t = some (.map k e)) (hd : P.underlying k = some d) {b : Nat} {E : List (Value × Value)} (hm : a.eval m = .map (some b)) (h : MapE w b d E) (hk : IsKey d (a.eval x))
    (hK : ∀ w', But b w w' → (((∀ p ∈ E, p.1 ≠ a.eval x) ∧ MapE w' b d (E ++ [(a.eval x, a.eval v)])) ∨ ∃ (j : Nat) (u : Value), E[j]? = some (a.eval x, u) ∧ MapE w' b d (E.set j (a.eval x, a.eval v))) → wpList P ops Q rest (a.put o.dst undef) w') :
    wpList P ops Q (o :: rest) a w := by
  refine wpList_plain hg fun K' hK' => ?_
  obtain ⟨w', hrun, r1, r2⟩ := h.put ht hd hk (v := a.eval v)
  unfold Oper.wp
  simp [execOp, hop, hm, hrun, Result.andThen]
  exact hK' _ _ (hK w' r1 r2)
theorem wpList_del {ops : Array Oper} {Q : Exit → Act → World → Prop} {a : Act} {w : World} {rest : List Oper} {o : Oper} (hg : o.guard = none) (m x : Operand) (t k : TypeId) (hop : o.op = Op.call { callee := Callee.builtin Builtin.delete, args := #[m, x], argTypes := #[t, k] })
    {e : TypeId} {d : TypeDesc} (ht : P.underlying t = some (.map k e)) (hd : P.underlying k = some d) {b : Nat} {E : List (Value × Value)} (hm : a.eval m = .map (some b)) (h : MapE w b d E) (hk : IsKey d (a.eval x))
    (hK : ∀ w', But b w w' → (((∀ p ∈ E, p.1 ≠ a.eval x) ∧ MapE w' b d E) ∨ ∃ (j : Nat) (u : Value), E[j]? = some (a.eval x, u) ∧ MapE w' b d (E.eraseIdx j)) → wpList P ops Q rest (a.put o.dst (.tuple #[])) w') :
    wpList P ops Q (o :: rest) a w := by
  refine wpList_plain hg fun K' hK' => ?_
  obtain ⟨w', hrun, r1, r2⟩ := h.del ht hd hk (ty := o.type)
  unfold Oper.wp
  simp [execOp, hop, resolve, invoke, builtin, hm, hrun, Result.andThen]
  exact hK' _ _ (hK w' r1 r2)
theorem wpList_look {ops : Array Oper} {Q : Exit → Act → World → Prop} {a : Act} {w : World} {rest : List Oper} {o : Oper} (hg : o.guard = none) (m x : Operand) (t : TypeId) (ok : Bool) (hop : o.op = .lookup t m x ok)
    {k e : TypeId} {d : TypeDesc} (ht : P.underlying t = some (.map k e)) (hd : P.underlying k = some d) {z : Value} (hz : (zeroValue e).run P w = .ok z w) {b : Nat} {E : List (Value × Value)} (hm : a.eval m = .map (some b)) (h : MapE w b d E) (hk : IsKey d (a.eval x))
    (h1 : (∀ p ∈ E, p.1 ≠ a.eval x) → wpList P ops Q rest (a.put o.dst (if ok then .tuple #[z, .bool false] else z)) w)
    (h2 : ∀ (j : Nat) (v : Value), E[j]? = some (a.eval x, v) → wpList P ops Q rest (a.put o.dst (if ok then .tuple #[v, .bool true] else v)) w) :
    wpList P ops Q (o :: rest) a w := by
  refine wpList_plain hg fun K' hK' => ?_
  unfold Oper.wp
  rcases h.look ht hd hz hk with ⟨hn, r1, r2⟩ | ⟨j, v, hj, r1, r2⟩
  · cases ok
    · simp [execOp, hop, hm, r1, Result.andThen]; exact hK' _ _ (h1 hn)
    · simp [execOp, hop, hm, r2, Result.andThen]; exact hK' _ _ (h1 hn)
  · cases ok
    · simp [execOp, hop, hm, r1, Result.andThen]; exact hK' _ _ (h2 j v hj)
    · simp [execOp, hop, hm, r2, Result.andThen]; exact hK' _ _ (h2 j v hj)
end
end Go.Proofs.YtckigoeomkphhaaGreat

namespace Go.Proofs.YtckigoeomkphhaaGreat
open Go.RowKit Go.MapKept Go.ChangeMaps

/-- A range over map b whose state lies in block r; left: the entries that are still to come. -/
def RangeE (w : World) (r b : Nat) (d : TypeDesc) (E left : List (Value × Value)) : Prop :=
  ∃ es clock since seen c0, w.heap[b]? = some (.map es clock) ∧ Stamped es clock ∧ (∀ x ∈ es.toList, IsKey d x.key) ∧ es.toList.map (fun x => (x.key, x.val)) = E ∧
    w.heap[r]? = some (.mapIter (some b) since seen c0) ∧ (∀ x ∈ es.toList, x.born < since) ∧ since ≤ c0 ∧ since ≤ clock ∧ (leftOf es seen).toList.map (fun x => (x.key, x.val)) = left
theorem RangeE.map {w : World} {r b : Nat} {d : TypeDesc} {E left : List (Value × Value)} (h : RangeE w r b d E left) : MapE w b d E := by
  obtain ⟨es, clock, since, seen, c0, h1, h2, h3, h4, _⟩ := h
  exact ⟨es, clock, h1, h2, h3, h4⟩
theorem RangeE.lt {w : World} {r b : Nat} {d : TypeDesc} {E left : List (Value × Value)} (h : RangeE w r b d E left) : r < w.heap.size := by
  obtain ⟨es, clock, since, seen, c0, _, _, _, _, h5, _⟩ := h
  exact (Array.getElem?_eq_some_iff.1 h5).1
theorem RangeE.ne {w : World} {r b : Nat} {d : TypeDesc} {E left : List (Value × Value)} (h : RangeE w r b d E left) : r ≠ b := by
  obtain ⟨es, clock, since, seen, c0, h1, _, _, _, h5, _⟩ := h
  intro e
  rw [e, h1] at h5
  cases h5
theorem RangeE.sub {w : World} {r b : Nat} {d : TypeDesc} {E left : List (Value × Value)} (h : RangeE w r b d E left) : left.Sublist E := by
  obtain ⟨es, clock, since, seen, c0, h1, _, _, h4, h5, _, _, _, h9⟩ := h
  rw [← h4, ← h9]
  refine List.Sublist.map _ ?_
  unfold leftOf
  rw [Array.toList_filter]
  exact List.filter_sublist
theorem RangeE.ext {w w' : World} {r b : Nat} {d : TypeDesc} {E left : List (Value × Value)} (h : RangeE w r b d E left) (hx : Ext w w') : RangeE w' r b d E left := by
  obtain ⟨es, clock, since, seen, c0, h1, h2, h3, h4, h5, rest⟩ := h
  exact ⟨es, clock, since, seen, c0, by rw [hx.block b (Array.getElem?_eq_some_iff.1 h1).1]; exact h1, h2, h3, h4, by rw [hx.block r (Array.getElem?_eq_some_iff.1 h5).1]; exact h5, rest⟩
theorem RangeE.grown {w w' : World} {r b : Nat} {d : TypeDesc} {E left : List (Value × Value)} {row : Option Nat} (h : RangeE w r b d E left) (hg : w.grownBy w' row) (hb : row ≠ some b) (hr : row ≠ some r) : RangeE w' r b d E left := by
  obtain ⟨es, clock, since, seen, c0, h1, h2, h3, h4, h5, rest⟩ := h
  exact ⟨es, clock, since, seen, c0, by rw [hg.block b (Array.getElem?_eq_some_iff.1 h1).1 (Ne.symm hb)]; exact h1, h2, h3, h4, by rw [hg.block r (Array.getElem?_eq_some_iff.1 h5).1 (Ne.symm hr)]; exact h5, rest⟩
theorem RangeE.but {w w' : World} {r b c : Nat} {d : TypeDesc} {E left : List (Value × Value)} (h : RangeE w r b d E left) (hg : But c w w') (hb : b ≠ c) (hr : r ≠ c) : RangeE w' r b d E left := by
  obtain ⟨es, clock, since, seen, c0, h1, h2, h3, h4, h5, rest⟩ := h
  exact ⟨es, clock, since, seen, c0, by rw [hg.block b hb]; exact h1, h2, h3, h4, by rw [hg.block r hr]; exact h5, rest⟩
theorem MapE.grown {w w' : World} {b : Nat} {d : TypeDesc} {E : List (Value × Value)} {row : Option Nat} (h : MapE w b d E) (hg : w.grownBy w' row) (hb : row ≠ some b) : MapE w' b d E := by
  obtain ⟨es, clock, h1, h2⟩ := h
  exact ⟨es, clock, by rw [hg.block b (Array.getElem?_eq_some_iff.1 h1).1 (Ne.symm hb)]; exact h1, h2⟩
theorem But.grown {b : Nat} {w w' : World} (h : But b w w') : w.grownBy w' (some b) := ⟨h.os, h.tape, h.output, by rw [h.size]; exact Nat.le_refl _, fun k _ hk => h.block k (fun e => hk (by rw [e]))⟩
theorem but_drew {b : Nat} {w : World} : But b w w.drew := ⟨rfl, rfl, rfl, rfl, Nat.le_succ _, fun _ _ => rfl⟩

/-- One of a row whose stamps differ, struck. -/
theorem strike_perm {α : Type} (f : α → Nat) : ∀ {l : List α} {e : α}, (l.map f).Nodup → e ∈ l → l.Perm (e :: l.filter fun x => !(f x == f e))
  | x :: l, e, hn, he => by
    rw [List.map_cons, List.nodup_cons] at hn
    by_cases h : f x = f e
    · have hx : x = e := by
        rcases List.mem_cons.1 he with rfl | he
        · rfl
        · exact absurd (List.mem_map.2 ⟨e, he, h.symm⟩) hn.1
      subst hx
      have e1 : (x :: l).filter (fun y => !(f y == f x)) = l := by
        rw [List.filter_cons_of_neg (by simp)]
        exact List.filter_eq_self.2 fun y hy => by
          have : f y ≠ f x := fun e => hn.1 (List.mem_map.2 ⟨y, hy, e⟩)
          simpa using this
      rw [e1]
    · have he' : e ∈ l := by
        rcases List.mem_cons.1 he with rfl | he
        · exact absurd rfl h
        · exact he
      rw [List.filter_cons_of_pos (by simpa using h)]
      exact ((strike_perm f hn.2 he').cons x).trans (List.Perm.swap _ _ _)
theorem left_push (es : Array MapEntry) (seen : Array Nat) (e : MapEntry) : (leftOf es (seen.push e.born)).toList = ((leftOf es seen).toList).filter fun x => !(x.born == e.born) := by
  unfold leftOf
  rw [Array.toList_filter, Array.toList_filter, List.filter_filter]
  refine List.filter_congr fun x _ => ?_
  rw [contains_push, Bool.not_or, Bool.and_comm]

section
variable {P : Program}
theorem MapE.range {w : World} {b : Nat} {d : TypeDesc} {E : List (Value × Value)} (h : MapE w b d E) {t k e : TypeId} (ht : P.underlying t = some (.map k e)) :
    ∃ w', (Instr.range t (.map (some b))).run P w = .ok (.pointer (some ⟨w.heap.size, 0, none⟩)) w' ∧ RangeE w' w.heap.size b d E E ∧ Ext w w' := by
  have hlt := h.lt
  obtain ⟨es, clock, hb, hs, hk, rfl⟩ := h
  refine ⟨_, run_range_map w t k e b es clock ht hb, ⟨es, clock, clock, #[], clock, ((MapKept.heap_alloc w _).2 b hlt).trans hb, hs, hk, rfl, (MapKept.heap_alloc w _).1, hs.1, Nat.le_refl _, Nat.le_refl _, ?_⟩, (Ext.refl w).alloc _⟩
  have e1 : leftOf es #[] = es := by unfold leftOf; exact Array.filter_eq_self.2 (by simp)
  rw [e1]
theorem RangeE.next {w : World} {r b : Nat} {d : TypeDesc} {E left : List (Value × Value)} (h : RangeE w r b d E left) (ty : TypeId) :
    (left = [] ∧ (Instr.next (.pointer (some ⟨r, 0, none⟩)) false ty).run P w = .ok (.tuple #[.bool false]) w) ∨
    ∃ k v left' w', left.Perm ((k, v) :: left') ∧ (k, v) ∈ E ∧ (Instr.next (.pointer (some ⟨r, 0, none⟩)) false ty).run P w = .ok (.tuple #[.bool true, k, v]) w' ∧ RangeE w' r b d E left' ∧ But r w w' ∧ (Instr.entry (.pointer (some ⟨r, 0, none⟩))).run P w' = .ok (.tuple #[k, v]) w' := by
  have hne := h.ne
  obtain ⟨es, clock, since, seen, c0, hb, hs, hk, hE, hr, hold, hsc, hsl, hl⟩ := h
  rcases run_next_at (P := P) w ty r b since c0 seen es clock hr hb hold hsc with ⟨h0, hrun⟩ | ⟨e, he, w1, hw1, hrun⟩
  · refine .inl ⟨?_, hrun⟩
    rw [← hl]
    have : (leftOf es seen).toList = [] := List.eq_nil_of_length_eq_zero (by rw [Array.length_toList]; exact h0)
    rw [this]; rfl
  · have hm := mem_left he
    have hb1 : w1.heap[b]? = some (.map es clock) := by rcases hw1 with rfl | rfl <;> exact hb
    have hr1 : w1.heap[r]? = some (.mapIter (some b) since seen c0) := by rcases hw1 with rfl | rfl <;> exact hr
    have hb2 : (setBlock w1 r (.mapIter (some b) since (seen.push e.born) clock)).heap[b]? = some (.map es clock) := ((but_set (b := r)).block b (Ne.symm hne)).trans hb1
    have hr2 : (setBlock w1 r (.mapIter (some b) since (seen.push e.born) clock)).heap[r]? = some (.mapIter (some b) since (seen.push e.born) clock) := by
      unfold setBlock
      exact Array.getElem?_setIfInBounds_self_of_lt (Array.getElem?_eq_some_iff.1 hr1).1
    refine .inr ⟨e.key, e.val, (leftOf es (seen.push e.born)).toList.map (fun x => (x.key, x.val)), _, ?_, ?_, hrun, ⟨es, clock, since, seen.push e.born, clock, hb2, hs, hk, hE, hr2, hold, hsl, hsl, rfl⟩, ?_, run_entry_at (P := P) _ r b since seen es clock e hr2 hb2 hm.1 hs.2.1⟩
    · rw [← hl, left_push]
      refine List.Perm.map (fun x : MapEntry => (x.key, x.val)) (strike_perm MapEntry.born ?_ he)
      refine List.Nodup.sublist (List.Sublist.map _ ?_) hs.2.1
      unfold leftOf
      rw [Array.toList_filter]
      exact List.filter_sublist
    · rw [← hE]; exact List.mem_map.2 ⟨e, hm.1, rfl⟩
    · rcases hw1 with rfl | rfl
      · exact but_set
      · exact but_drew.trans but_set
/-- A store under a key that has come up already. -/
theorem RangeE.put {w : World} {r b : Nat} {d : TypeDesc} {E left : List (Value × Value)} (h : RangeE w r b d E left) {t k e : TypeId} (ht : P.underlying t = some (.map k e)) (hd : P.underlying k = some d) {key u v : Value} {j : Nat} (hj : E[j]? = some (key, u)) (hn : ∀ p ∈ left, p.1 ≠ key) :
    ∃ w', (Instr.mapUpdate t (.map (some b)) key v).run P w = .ok () w' ∧ But b w w' ∧ RangeE w' r b d (E.set j (key, v)) left := by
  have hne := h.ne
  obtain ⟨es, clock, since, seen, c0, hb, hs, hks, hE, hr, hold, hsc, hsl, hl⟩ := h
  have hnd : (E.map (·.1)).Nodup := by rw [← hE, List.map_map]; exact hs.2.2
  have hx : ∃ x, es[j]? = some x ∧ x.key = key ∧ x.val = u := by
    rw [← hE, List.getElem?_map] at hj
    cases hx : es.toList[j]? with
    | none => rw [hx] at hj; cases hj
    | some x =>
      rw [hx] at hj
      simp only [Option.map_some, Option.some.injEq, Prod.mk.injEq] at hj
      exact ⟨x, by simpa using hx, hj.1, hj.2⟩
  obtain ⟨x, hxj, hxk, hxu⟩ := hx
  have hk : IsKey d key := by rw [← hxk]; exact hks x (Array.mem_toList_iff.2 (Array.mem_of_getElem? hxj))
  rcases findNow_spec hk es.toList 0 hks with ⟨h1, h2⟩ | ⟨j', x', h1, h2, h3⟩
  · exact absurd hxk (h2 x (Array.mem_toList_iff.2 (Array.mem_of_getElem? hxj)))
  · have hj' : es[j']? = some x' := by simpa using h2
    have hjj : j' = j := by
      have l1 : j' < (es.toList.map (·.key)).length := by rw [List.length_map, Array.length_toList]; exact (Array.getElem?_eq_some_iff.1 hj').1
      have l2 : j < (es.toList.map (·.key)).length := by rw [List.length_map, Array.length_toList]; exact (Array.getElem?_eq_some_iff.1 hxj).1
      refine (List.getElem_inj (xs := es.toList.map (·.key)) (h₀ := l1) (h₁ := l2) hs.2.2).1 ?_
      have a1 : (es.toList.map (·.key))[j']? = some x'.key := by rw [List.getElem?_map, h2]; rfl
      have a2 : (es.toList.map (·.key))[j]? = some x.key := by rw [List.getElem?_map]; simp [hxj]
      rw [List.getElem?_eq_getElem l1] at a1
      rw [List.getElem?_eq_getElem l2] at a2
      rw [Option.some.inj a1, Option.some.inj a2, hxk, h3]
    subst hjj
    have hkey : ∀ e', es[j']? = some e' → ({ e' with key := key, val := v } : MapEntry).key = e'.key := fun e' he' => by rw [hj'] at he'; cases he'; exact h3.symm
    have hborn : (es.modify j' fun e => { e with key := key, val := v }).toList.map (·.born) = es.toList.map (·.born) := by
      apply List.ext_getElem?
      intro i
      simp only [List.getElem?_map, Array.getElem?_toList, Array.getElem?_modify]
      by_cases hij : j' = i
      · subst hij; rw [if_pos rfl, hj']; rfl
      · rw [if_neg hij]
    refine ⟨setBlock w b (.map (es.modify j' fun e => { e with key := key, val := v }) clock), ?_, but_set, _, clock, since, seen, c0, heap_setBlock_same hb _, stamped_modify hs _ _ (fun _ _ => rfl) (fun e' _ he' => hkey e' he'), isKey_modify hks _ _ hkey, ?_, (heap_setBlock_other hb _ hne).trans hr, ?_, hsc, hsl, ?_⟩
    · simp only [Instr.mapUpdate, Sem.run_bind, run_underlying ht, Go.MapKept.run_getObj_map hb, Go.MapKept.run_checkKey hd hk, Go.MapKept.run_findKey hd h1, Result.andThen]; simp [hj', h3, run_keyThatStays hk, Go.MapKept.run_setObj_map _ hb, setBlock]
    · rw [map_modify_set es j' x' hj' key v, hE]
    · intro y hy
      have : y.born ∈ (es.modify j' fun e => { e with key := key, val := v }).toList.map (·.born) := List.mem_map.2 ⟨y, hy, rfl⟩
      rw [hborn] at this
      obtain ⟨z, hz, e⟩ := List.mem_map.1 this
      rw [← e]; exact hold z hz
    · -- the entries that are left are others
      rw [← hl]
      have hseen : seen.contains x'.born = true := by
        cases hc : seen.contains x'.born with
        | true => rfl
        | false =>
          refine absurd h3 (hn (x'.key, x'.val) ?_)
          rw [← hl]
          refine List.mem_map.2 ⟨x', ?_, rfl⟩
          unfold leftOf
          rw [Array.toList_filter, List.mem_filter]
          exact ⟨Array.mem_toList_iff.2 (Array.mem_of_getElem? hj'), by rw [hc]; rfl⟩
      unfold leftOf
      rw [Array.toList_filter, Array.toList_filter]
      have hset : (es.modify j' fun e => { e with key := key, val := v }).toList = es.toList.set j' { x' with key := key, val := v } := by
        apply List.ext_getElem?
        intro i
        simp only [Array.getElem?_toList, Array.getElem?_modify, List.getElem?_set]
        by_cases hij : j' = i
        · subst hij; rw [if_pos rfl, if_pos rfl, hj', if_pos (by rw [Array.length_toList]; exact (Array.getElem?_eq_some_iff.1 hj').1)]; rfl
        · rw [if_neg hij, if_neg hij]
      rw [hset]
      have key2 : ∀ (l : List MapEntry) (i : Nat), l[i]? = some x' → (l.set i { x' with key := key, val := v }).filter (fun e => !seen.contains e.born) = l.filter (fun e => !seen.contains e.born) := by
        intro l
        induction l with
        | nil => intro i h; cases h
        | cons y l ih =>
          intro i hi
          cases i with
          | zero =>
            simp only [List.getElem?_cons_zero, Option.some.injEq] at hi
            subst hi
            rw [List.set_cons_zero, List.filter_cons_of_neg (by simp only [hseen]; decide), List.filter_cons_of_neg (by rw [hseen]; decide)]
          | succ i =>
            rw [List.set_cons_succ, List.filter_cons, List.filter_cons, ih i (by simpa using hi)]
      rw [key2 _ _ h2]

/-- An entry that is taken, to be stored into. -/
def EntryAt (w : World) (b : Nat) (d : TypeDesc) (E : List (Value × Value)) (j st : Nat) : Prop :=
  ∃ es clock, w.heap[b]? = some (.map es clock) ∧ Stamped es clock ∧ (∀ x ∈ es.toList, IsKey d x.key) ∧ es.toList.map (fun x => (x.key, x.val)) = E ∧ ∃ x, es[j]? = some x ∧ x.born = st
theorem EntryAt.map {w : World} {b : Nat} {d : TypeDesc} {E : List (Value × Value)} {j st : Nat} (h : EntryAt w b d E j st) : MapE w b d E := by
  obtain ⟨es, clock, h1, h2, h3, h4, _⟩ := h
  exact ⟨es, clock, h1, h2, h3, h4⟩
theorem EntryAt.ext {w w' : World} {b : Nat} {d : TypeDesc} {E : List (Value × Value)} {j st : Nat} (h : EntryAt w b d E j st) (hx : Ext w w') : EntryAt w' b d E j st := by
  obtain ⟨es, clock, h1, h2⟩ := h
  exact ⟨es, clock, by rw [hx.block b (Array.getElem?_eq_some_iff.1 h1).1]; exact h1, h2⟩
theorem EntryAt.grown {w w' : World} {b : Nat} {d : TypeDesc} {E : List (Value × Value)} {j st : Nat} {row : Option Nat} (h : EntryAt w b d E j st) (hg : w.grownBy w' row) (hb : row ≠ some b) : EntryAt w' b d E j st := by
  obtain ⟨es, clock, h1, h2⟩ := h
  exact ⟨es, clock, by rw [hg.block b (Array.getElem?_eq_some_iff.1 h1).1 (Ne.symm hb)]; exact h1, h2⟩
theorem MapE.entry {w : World} {b : Nat} {d : TypeDesc} {E : List (Value × Value)} (h : MapE w b d E) {t k e : TypeId} (ht : P.underlying t = some (.map k e)) (hd : P.underlying k = some d) {z : Value} (hz : ∀ w, (zeroValue e).run P w = .ok z w) {key : Value} (hk : IsKey d key) :
    ∃ w' st, But b w w' ∧
      (((∀ p ∈ E, p.1 ≠ key) ∧ (Instr.mapEntry t (.map (some b)) key).run P w = .ok (.tuple #[z, goInt (st : Nat)]) w' ∧ EntryAt w' b d (E ++ [(key, z)]) E.length st) ∨
       ∃ (j : Nat) (u : Value), E[j]? = some (key, u) ∧ (Instr.mapEntry t (.map (some b)) key).run P w = .ok (.tuple #[u, goInt (st : Nat)]) w' ∧ EntryAt w' b d E j st) := by
  obtain ⟨es, clock, hb, hs, hks, rfl⟩ := h
  rcases findNow_spec hk es.toList 0 hks with ⟨h1, h2⟩ | ⟨j, x, h1, h2, h3⟩
  · refine ⟨setBlock w b (.map (es.push { key, val := z, born := clock }) (clock + 1)), clock, but_set, .inl ⟨fun p hp => ?_, ?_, _, _, heap_setBlock_same hb _, stamped_push hs h2, ?_, by simp, _, by rw [List.length_map, Array.length_toList]; exact Array.getElem?_push_size, rfl⟩⟩
    · obtain ⟨x, hx, rfl⟩ := List.mem_map.1 hp
      exact h2 x hx
    · simp only [Instr.mapEntry, Sem.run_bind, run_underlying ht, Go.MapKept.run_getObj_map hb, Go.MapKept.run_checkKey hd hk, Go.MapKept.run_findKey hd h1, Result.andThen, hz]; simp [Go.MapKept.run_setObj_map _ hb, setBlock]
    · intro x hx
      simp only [Array.toList_push, List.mem_append, List.mem_singleton] at hx
      rcases hx with hx | rfl
      · exact hks x hx
      · exact hk
  · have hj : es[j]? = some x := by simpa using h2
    have hkey : ∀ e', es[j]? = some e' → ({ e' with key := key } : MapEntry).key = e'.key := fun e' he' => by rw [hj] at he'; cases he'; exact h3.symm
    have hset : (es.modify j fun e => { e with key := key }).toList.map (fun x => (x.key, x.val)) = es.toList.map (fun x => (x.key, x.val)) := by
      apply List.ext_getElem?
      intro i
      simp only [List.getElem?_map, Array.getElem?_toList, Array.getElem?_modify]
      by_cases hij : j = i
      · subst hij; rw [if_pos rfl, hj]; simp [h3]
      · rw [if_neg hij]
    refine ⟨setBlock w b (.map (es.modify j fun e => { e with key := key }) clock), x.born, but_set, .inr ⟨j, x.val, ?_, ?_, _, _, heap_setBlock_same hb _, stamped_modify hs _ _ (fun _ _ => rfl) (fun e' _ he' => hkey e' he'), isKey_modify hks _ _ hkey, hset, { x with key := key }, ?_, rfl⟩⟩
    · rw [List.getElem?_map, h2]; simp [h3]
    · simp only [Instr.mapEntry, Sem.run_bind, run_underlying ht, Go.MapKept.run_getObj_map hb, Go.MapKept.run_checkKey hd hk, Go.MapKept.run_findKey hd h1, Result.andThen]; simp [hj, h3, run_keyThatStays hk, Go.MapKept.run_setObj_map _ hb, setBlock]
    · rw [Array.getElem?_modify, if_pos rfl, hj]; rfl
theorem EntryAt.store {w : World} {b : Nat} {d : TypeDesc} {E : List (Value × Value)} {j st : Nat} (h : EntryAt w b d E j st) (t : TypeId) (v : Value) {key u : Value} (hj : E[j]? = some (key, u)) :
    ∃ w', (Instr.entryStore t (.map (some b)) (goInt (st : Nat)) v).run P w = .ok () w' ∧ But b w w' ∧ MapE w' b d (E.set j (key, v)) := by
  obtain ⟨es, clock, hb, hs, hks, rfl, x, hx, rfl⟩ := h
  have hfi : es.findIdx? (fun e => (e.born : Int) == (x.born : Int)) = some j := by
    rw [Array.findIdx?_eq_some_iff_getElem]
    obtain ⟨hjl, ej⟩ := Array.getElem?_eq_some_iff.1 hx
    refine ⟨hjl, by rw [ej]; simp, fun i hij => ?_⟩
    have l1 : i < (es.toList.map (·.born)).length := by rw [List.length_map, Array.length_toList]; omega
    have l2 : j < (es.toList.map (·.born)).length := by rw [List.length_map, Array.length_toList]; omega
    intro he
    have he2 : es[i].born = x.born := by
      have := of_decide_eq_true (by simpa using he : decide ((es[i].born : Int) = (x.born : Int)) = true)
      omega
    have : i = j := (List.getElem_inj (xs := es.toList.map (·.born)) (h₀ := l1) (h₁ := l2) hs.2.1).1 (by simp [he2, ej])
    omega
  have hkey : x.key = key := by
    rw [List.getElem?_map] at hj
    simp [hx] at hj
    exact hj.1
  have hset : (es.modify j fun e => { e with val := v }).toList.map (fun x => (x.key, x.val)) = (es.toList.map (fun x => (x.key, x.val))).set j (key, v) := by
    apply List.ext_getElem?
    intro i
    simp only [List.getElem?_map, Array.getElem?_toList, Array.getElem?_modify, List.getElem?_set, List.length_map]
    by_cases hji : j = i
    · subst hji
      rw [if_pos rfl, if_pos rfl, hx, if_pos (by rw [Array.length_toList]; exact (Array.getElem?_eq_some_iff.1 hx).1)]
      simp [hkey]
    · rw [if_neg hji, if_neg hji]
  refine ⟨setBlock w b (.map (es.modify j fun e => { e with val := v }) clock), ?_, but_set, _, _, heap_setBlock_same hb _, stamped_modify hs _ _ (fun _ _ => rfl) (fun _ _ _ => rfl), isKey_modify hks _ _ (fun _ _ => rfl), hset⟩
  simp only [Instr.entryStore, Sem.run_bind, Go.MapKept.run_getObj_map hb, Result.andThen, goInt, asInt, asIntOf]
  simp [hfi, Go.MapKept.run_setObj_map _ hb, setBlock]

/-! At the operation, for the walk -/
theorem wpList_rangeE {ops : Array Oper} {Q : Exit → Act → World → Prop} {a : Act} {w : World} {rest : List Oper} {o : Oper} (hg : o.guard = none) (m : Operand) (t : TypeId) (hop : o.op = Op.range t m)
    {k e : TypeId} {d : TypeDesc} (ht : P.underlying t = some (.map k e)) {b : Nat} {E : List (Value × Value)} (hm : a.eval m = .map (some b)) (h : MapE w b d E)
    (hK : ∀ w', RangeE w' w.heap.size b d E E → Ext w w' → wpList P ops Q rest (a.put o.dst (.pointer (some ⟨w.heap.size, 0, none⟩))) w') : wpList P ops Q (o :: rest) a w := by
  refine wpList_plain hg fun K' hK' => ?_
  obtain ⟨w', hrun, r1, r2⟩ := h.range ht
  unfold Oper.wp
  simp [execOp, hop, hm, hrun, Result.andThen]
  exact hK' _ _ (hK w' r1 r2)
theorem wpList_nextE {ops : Array Oper} {Q : Exit → Act → World → Prop} {a : Act} {w : World} {rest : List Oper} {o : Oper} (hg : o.guard = none) (it : Operand) (hop : o.op = Op.next it false)
    {r b : Nat} {d : TypeDesc} {E left : List (Value × Value)} (hit : a.eval it = .pointer (some ⟨r, 0, none⟩)) (h : RangeE w r b d E left)
    (hDone : left = [] → wpList P ops Q rest (a.put o.dst (.tuple #[.bool false])) w)
    (hMore : ∀ k v left' w', left.Perm ((k, v) :: left') → (k, v) ∈ E → RangeE w' r b d E left' → But r w w' → (Instr.entry (.pointer (some ⟨r, 0, none⟩))).run P w' = .ok (.tuple #[k, v]) w' → wpList P ops Q rest (a.put o.dst (.tuple #[.bool true, k, v])) w') :
    wpList P ops Q (o :: rest) a w := by
  refine wpList_plain hg fun K' hK' => ?_
  unfold Oper.wp
  rcases h.next (P := P) o.type with ⟨h0, hrun⟩ | ⟨k, v, left', w', h1, h2, hrun, h3, h4, h5⟩
  · simp [execOp, hop, hit, hrun, Result.andThen]
    exact hK' _ _ (hDone h0)
  · simp [execOp, hop, hit, hrun, Result.andThen]
    exact hK' _ _ (hMore k v left' w' h1 h2 h3 h4 h5)
theorem wpList_putR {ops : Array Oper} {Q : Exit → Act → World → Prop} {a : Act} {w : World} {rest : List Oper} {o : Oper} (hg : o.guard = none) (m x v : Operand) (t : TypeId) (hop : o.op = .mapUpdate t m x v)
    {k e : TypeId} {d : TypeDesc} (ht : P.underlying t = some (.map k e)) (hd : P.underlying k = some d) {r b j : Nat} {E left : List (Value × Value)} {u : Value} (hm : a.eval m = .map (some b)) (h : RangeE w r b d E left) (hj : E[j]? = some (a.eval x, u)) (hn : ∀ p ∈ left, p.1 ≠ a.eval x)
    (hK : ∀ w', But b w w' → RangeE w' r b d (E.set j (a.eval x, a.eval v)) left → wpList P ops Q rest (a.put o.dst undef) w') : wpList P ops Q (o :: rest) a w := by
  refine wpList_plain hg fun K' hK' => ?_
  obtain ⟨w', hrun, r1, r2⟩ := h.put ht hd hj hn (v := a.eval v)
  unfold Oper.wp
  simp [execOp, hop, hm, hrun, Result.andThen]
  exact hK' _ _ (hK w' r1 r2)
theorem wpList_entryE {ops : Array Oper} {Q : Exit → Act → World → Prop} {a : Act} {w : World} {rest : List Oper} {o : Oper} (hg : o.guard = none) (m x : Operand) (t : TypeId) (hop : o.op = .mapEntry t m x)
    {k e : TypeId} {d : TypeDesc} (ht : P.underlying t = some (.map k e)) (hd : P.underlying k = some d) {z : Value} (hz : ∀ w, (zeroValue e).run P w = .ok z w) {b : Nat} {E : List (Value × Value)} (hm : a.eval m = .map (some b)) (h : MapE w b d E) (hk : IsKey d (a.eval x))
    (hNew : ∀ w' st, But b w w' → (∀ p ∈ E, p.1 ≠ a.eval x) → EntryAt w' b d (E ++ [(a.eval x, z)]) E.length st → wpList P ops Q rest (a.put o.dst (.tuple #[z, goInt (st : Nat)])) w')
    (hOld : ∀ w' st j u, But b w w' → E[j]? = some (a.eval x, u) → EntryAt w' b d E j st → wpList P ops Q rest (a.put o.dst (.tuple #[u, goInt (st : Nat)])) w') : wpList P ops Q (o :: rest) a w := by
  refine wpList_plain hg fun K' hK' => ?_
  unfold Oper.wp
  obtain ⟨w', st, hb, ⟨hn, hrun, h1⟩ | ⟨j, u, hj, hrun, h1⟩⟩ := h.entry ht hd hz hk
  · simp [execOp, hop, hm, hrun, Result.andThen]
    exact hK' _ _ (hNew w' st hb hn h1)
  · simp [execOp, hop, hm, hrun, Result.andThen]
    exact hK' _ _ (hOld w' st j u hb hj h1)
theorem wpList_estore {ops : Array Oper} {Q : Exit → Act → World → Prop} {a : Act} {w : World} {rest : List Oper} {o : Oper} (hg : o.guard = none) (m s v : Operand) (t : TypeId) (hop : o.op = .entryStore t m s v)
    {d : TypeDesc} {b j st : Nat} {E : List (Value × Value)} {key u : Value} (hm : a.eval m = .map (some b)) (hs : a.eval s = goInt (st : Nat)) (h : EntryAt w b d E j st) (hj : E[j]? = some (key, u))
    (hK : ∀ w', But b w w' → MapE w' b d (E.set j (key, a.eval v)) → wpList P ops Q rest (a.put o.dst undef) w') : wpList P ops Q (o :: rest) a w := by
  refine wpList_plain hg fun K' hK' => ?_
  obtain ⟨w', hrun, r1, r2⟩ := h.store t (a.eval v) hj (P := P)
  unfold Oper.wp
  simp [execOp, hop, hm, hs, hrun, Result.andThen]
  exact hK' _ _ (hK w' r1 r2)
end
theorem RangeE.left_eq {w : World} {r b : Nat} {d : TypeDesc} {E left : List (Value × Value)} (h : RangeE w r b d E left) : w.rangeLeft b r = left.length := by
  obtain ⟨es, clock, since, seen, c0, h1, _, _, _, h5, _, _, _, h9⟩ := h
  simp only [World.rangeLeft, h1, h5]
  rw [← h9, List.length_map, Array.length_toList]

section
variable {P : Program}
theorem MapE.len {w : World} {b : Nat} {d : TypeDesc} {E : List (Value × Value)} (h : MapE w b d E) {t k e : TypeId} (ht : P.underlying t = some (.map k e)) (ty : TypeId) :
    (Builtin.len_ #[t] ty #[.map (some b)]).run P w = .ok (.int .i64 (E.length : Nat)) w := by
  obtain ⟨es, clock, hb, _, _, rfl⟩ := h
  have hl : (es.toList.map fun x => (x.key, x.val)).length = es.size := by rw [List.length_map, Array.length_toList]
  rw [hl]
  simp [Builtin.len_, run_underlying ht, Go.MapKept.run_getObj_map hb, goInt, Result.andThen]
theorem MapE.known {w : World} {b : Nat} {d : TypeDesc} {E : List (Value × Value)} (h : MapE w b d E) {t k e : TypeId} (ht : P.underlying t = some (.map k e)) (hd : P.underlying k = some d) {z : Value} (hz : (zeroValue e).run P w = .ok z w) {key v : Value} (hm : (key, v) ∈ E) :
    (Instr.lookup t (.map (some b)) key false).run P w = .ok v w ∧ (Instr.lookup t (.map (some b)) key true).run P w = .ok (.tuple #[v, .bool true]) w := by
  obtain ⟨i, hi⟩ := List.mem_iff_getElem?.1 hm
  rcases h.look (P := P) ht hd hz (h.keys.1 _ hm) with ⟨h1, _⟩ | ⟨j, u, hj, h1, h2⟩
  · exact absurd rfl (h1 _ hm)
  · have e1 : (E.map (·.1))[i]? = some key := by rw [List.getElem?_map, hi]; rfl
    have e2 : (E.map (·.1))[j]? = some key := by rw [List.getElem?_map, hj]; rfl
    have : i = j := (List.getElem?_inj (List.getElem?_eq_some_iff.1 e1).1 h.keys.2).1 (e1.trans e2.symm)
    subst this
    rw [hi] at hj
    simp only [Option.some.injEq, Prod.mk.injEq, true_and] at hj
    subst hj
    exact ⟨h1, h2⟩
theorem MapE.unknown {w : World} {b : Nat} {d : TypeDesc} {E : List (Value × Value)} (h : MapE w b d E) {t k e : TypeId} (ht : P.underlying t = some (.map k e)) (hd : P.underlying k = some d) {z : Value} (hz : (zeroValue e).run P w = .ok z w) {key : Value} (hk : IsKey d key) (hm : ∀ p ∈ E, p.1 ≠ key) :
    (Instr.lookup t (.map (some b)) key false).run P w = .ok z w ∧ (Instr.lookup t (.map (some b)) key true).run P w = .ok (.tuple #[z, .bool false]) w := by
  rcases h.look (P := P) ht hd hz hk with ⟨_, h1, h2⟩ | ⟨j, u, hj, _⟩
  · exact ⟨h1, h2⟩
  · exact absurd rfl (hm _ (List.mem_of_getElem? hj))
theorem wpList_lenE {ops : Array Oper} {Q : Exit → Act → World → Prop} {a : Act} {w : World} {rest : List Oper} {o : Oper} (m : Operand) (t : TypeId) (hop : o.op = Op.call { callee := Callee.builtin Builtin.len, args := #[m], argTypes := #[t] }) (hw : Region.wanted o (yielded ops a.tmps) = true)
    {k e : TypeId} {d : TypeDesc} (ht : P.underlying t = some (.map k e)) {b : Nat} {E : List (Value × Value)} (hm : a.eval m = .map (some b)) (h : MapE w b d E) {n : Nat} (hn : E.length = n)
    (hK : wpList P ops Q rest (a.put o.dst (.int .i64 n)) w) : wpList P ops Q (o :: rest) a w := by
  subst hn
  exact wpList_val hw (by simp [execOp, hop, resolve, invoke, builtin, hm, h.len ht o.type, Result.andThen]) hK
end
end Go.Proofs.YtckigoeomkphhaaGreat

namespace Go.Proofs.YtckigoeomkphhaaGreat
open Go.RowKit

theorem block_later {w w' : World} {b : Nat} {o : Obj} (h : w.heap[b]? = some o) (hx : Ext w w') : w'.heap[b]? = some o :=
  (hx.block b (Array.getElem?_eq_some_iff.1 h).1).trans h
theorem boxes1 (w : World) (a : Obj) : Ext w (w.alloc a) ∧ (w.alloc a).heap[w.heap.size]? = some a :=
  ⟨(Ext.refl w).alloc _, heap_alloc_new w a⟩
theorem boxes2 (w : World) (a b : Obj) : Ext w ((w.alloc a).alloc b) ∧ ((w.alloc a).alloc b).heap[w.heap.size]? = some a ∧ ((w.alloc a).alloc b).heap[w.heap.size + 1]? = some b := by
  refine ⟨((Ext.refl w).alloc _).alloc _, block_later (heap_alloc_new w a) ((Ext.refl _).alloc _), ?_⟩
  have h := heap_alloc_new (w.alloc a) b
  rw [World.size_alloc] at h; exact h
theorem boxes3 (w : World) (a b c : Obj) : Ext w (((w.alloc a).alloc b).alloc c) ∧ (((w.alloc a).alloc b).alloc c).heap[w.heap.size]? = some a ∧ (((w.alloc a).alloc b).alloc c).heap[w.heap.size + 1]? = some b ∧ (((w.alloc a).alloc b).alloc c).heap[w.heap.size + 1 + 1]? = some c := by
  obtain ⟨h1, h2, h3⟩ := boxes2 w a b
  have hx : Ext ((w.alloc a).alloc b) (((w.alloc a).alloc b).alloc c) := (Ext.refl _).alloc _
  refine ⟨h1.trans hx, block_later h2 hx, block_later h3 hx, ?_⟩
  have h := heap_alloc_new ((w.alloc a).alloc b) c
  rw [World.size_alloc, World.size_alloc] at h; exact h
theorem boxes4 (w : World) (a b c d : Obj) : Ext w ((((w.alloc a).alloc b).alloc c).alloc d) ∧ ((((w.alloc a).alloc b).alloc c).alloc d).heap[w.heap.size]? = some a ∧ ((((w.alloc a).alloc b).alloc c).alloc d).heap[w.heap.size + 1]? = some b ∧ ((((w.alloc a).alloc b).alloc c).alloc d).heap[w.heap.size + 1 + 1]? = some c ∧ ((((w.alloc a).alloc b).alloc c).alloc d).heap[w.heap.size + 1 + 1 + 1]? = some d := by
  obtain ⟨h1, h2, h3, h4⟩ := boxes3 w a b c
  have hx : Ext (((w.alloc a).alloc b).alloc c) ((((w.alloc a).alloc b).alloc c).alloc d) := (Ext.refl _).alloc _
  refine ⟨h1.trans hx, block_later h2 hx, block_later h3 hx, block_later h4 hx, ?_⟩
  have h := heap_alloc_new (((w.alloc a).alloc b).alloc c) d
  rw [World.size_alloc, World.size_alloc, World.size_alloc] at h; exact h
end Go.Proofs.YtckigoeomkphhaaGreat

namespace Go.Proofs.YtckigoeomkphhaaGreat
open Go.RowKit

/-- A predicate in rows of the types of predicates, all of them from block b on. -/
def PredT (b : Nat) (w : World) (h : Value) (p : List C) : Prop := ∃ us : List CS, us.map CS.c = p ∧ w.ownsRow b 52 7 h us.length (us.flatMap csC) ∧ ∀ x ∈ us, SetO b w x
theorem PredT.pred {b : Nat} {w : World} {h : Value} {p : List C} (k : PredT b w h p) : PredR w h p := by
  obtain ⟨us, rfl, h1, h2⟩ := k
  exact PredR.mk us (Row.of_own h1) fun x hx => (h2 x hx).set
theorem PredT.ext {b : Nat} {w w' : World} {h : Value} {p : List C} (k : PredT b w h p) (hx : Ext w w') : PredT b w' h p := by
  obtain ⟨us, e, h1, h2⟩ := k
  exact ⟨us, e, own_ext h1 hx, fun x hm => (h2 x hm).ext hx⟩
theorem PredT.low {b c : Nat} {w : World} {h : Value} {p : List C} (k : PredT b w h p) (hb : c ≤ b) : PredT c w h p := by
  obtain ⟨us, e, h1, h2⟩ := k
  exact ⟨us, e, own_low h1 hb, fun x hm => own_low (h2 x hm) hb⟩
theorem PredT.none (b : Nat) (w : World) : PredT b w (.slice none 0 0) [] := ⟨[], rfl, own_none _ _ _ _, fun _ h => by cases h⟩
theorem PredT.of {b : Nat} {w : World} {h : Value} {us : List CS} (h1 : w.ownsRow b 52 7 h us.length (us.flatMap csC)) (h2 : ∀ x ∈ us, SetO b w x) : PredT b w h (us.map CS.c) := ⟨us, rfl, h1, h2⟩

/-- The blocks of M may turn, and those rows of type T that lie from base on; all else stays. -/
structure TurnT (M : Nat → Prop) (T : TypeId) (base : Nat) (w w' : World) : Prop where
  os : w'.os = w.os
  tape : w'.tape = w.tape
  output : w'.output = w.output
  size : w.heap.size ≤ w'.heap.size
  block : ∀ k, k < w.heap.size → ¬ M k → (base ≤ k → ∀ cs fr, w.heap[k]? ≠ some (.cells cs T fr)) → w'.heap[k]? = w.heap[k]?
variable {M : Nat → Prop} {T : TypeId} {base : Nat}
theorem TurnT.refl (M : Nat → Prop) (T : TypeId) (base : Nat) (w : World) : TurnT M T base w w := ⟨rfl, rfl, rfl, Nat.le_refl _, fun _ _ _ _ => rfl⟩
theorem TurnT.trans {a b c : World} (h : TurnT M T base a b) (k : TurnT M T base b c) : TurnT M T base a c :=
  ⟨k.os.trans h.os, k.tape.trans h.tape, k.output.trans h.output, Nat.le_trans h.size k.size, fun i hi hM hT => by
    have e := h.block i hi hM hT
    rw [← e]
    exact k.block i (Nat.lt_of_lt_of_le hi h.size) hM fun hb cs fr => by rw [e]; exact hT hb cs fr⟩
theorem TurnT.mono {N : Nat → Prop} {w w' : World} (h : TurnT M T base w w') (hMN : ∀ k, M k → N k) : TurnT N T base w w' := ⟨h.os, h.tape, h.output, h.size, fun k hk hN hT => h.block k hk (fun hm => hN (hMN k hm)) hT⟩
theorem TurnT.of_ext {w w' : World} (h : Ext w w') : TurnT M T base w w' := ⟨h.os, h.tape, h.output, h.size, fun k hk _ _ => h.block k hk⟩
theorem TurnT.of_grown {w w' : World} {row : Option Nat} (hg : w.grownBy w' row) (h : ∀ k, row = some k → M k ∨ (base ≤ k ∧ ∃ cs fr, w.heap[k]? = some (.cells cs T fr))) : TurnT M T base w w' :=
  ⟨hg.os, hg.tape, hg.output, hg.size, fun k hk hM hT => hg.block k hk fun e => by
    rcases h k e.symm with h | ⟨h1, cs, fr, h2⟩
    · exact hM h
    · exact hT h1 cs fr h2⟩
theorem TurnT.of_row {w w' : World} {b size n : Nat} {v : Value} {xs : List Value} (ho : w.ownsRow b T size v n xs) (hb : base ≤ b) (hg : w.grownBy w' v.ownBlock) : TurnT M T base w w' := by
  refine TurnT.of_grown hg fun k hk => .inr ?_
  refine ⟨Nat.le_trans hb (own_base ho k hk), ?_⟩
  rcases ho.2 with ⟨rfl, _⟩ | ⟨g, cap, cur, rfl, _, hg, _⟩
  · simp [Value.ownBlock] at hk
  · simp only [Value.ownBlock, Option.some.injEq] at hk
    subst hk
    exact ⟨_, _, hg⟩
theorem But.ofM {w w' : World} {b : Nat} (h : But b w w') (hM : M b) : TurnT M T base w w' :=
  ⟨h.os, h.tape, h.output, by rw [h.size]; exact Nat.le_refl _, fun k _ hk _ => h.block k fun e => hk (e ▸ hM)⟩
/-- A block that is new turns. -/
theorem TurnT.skip {a b c : World} (h : TurnT M T base a b) {row : Option Nat} (hg : b.grownBy c row) (hr : ∀ k, row = some k → a.heap.size ≤ k) : TurnT M T base a c :=
  ⟨hg.os.trans h.os, hg.tape.trans h.tape, hg.output.trans h.output, Nat.le_trans h.size hg.size, fun i hi hM hT => (hg.block i (Nat.lt_of_lt_of_le hi h.size) fun e => by have := hr i e.symm; omega).trans (h.block i hi hM hT)⟩
theorem TurnT.ext {W w w' : World} (h : TurnT M T base w w') (hx : Ext W w) (hb : W.heap.size ≤ base) (hM : ∀ k, M k → W.heap.size ≤ k) : Ext W w' :=
  ⟨h.os.trans hx.os, h.tape.trans hx.tape, h.output.trans hx.output, Nat.le_trans hx.size h.size, fun k hk =>
    (h.block k (Nat.lt_of_lt_of_le hk hx.size) (fun hm => by have := hM k hm; omega) (fun hb2 => by omega)).trans (hx.block k hk)⟩
theorem TurnT.heap {w w' : World} (h : TurnT M T base w w') {k : Nat} {o : Obj} (ho : w.heap[k]? = some o) (hM : ¬ M k) (hT : ∀ cs fr, o ≠ .cells cs T fr) : w'.heap[k]? = some o :=
  (h.block k (Array.getElem?_eq_some_iff.1 ho).1 hM fun _ cs fr e => hT cs fr (Option.some.inj (ho.symm.trans e))).trans ho
theorem TurnT.box {w w' : World} (h : TurnT M T base w w') {k : Nat} {cs : Array Value} {t : TypeId} {fr : Nat × Nat} (ho : w.heap[k]? = some (.cells cs t fr)) (hM : ¬ M k) (hT : t ≠ T) : w'.heap[k]? = some (.cells cs t fr) :=
  h.heap ho hM fun _ _ e => by cases e; exact hT rfl
theorem TurnT.own {w w' : World} (h : TurnT M T base w w') {b size n : Nat} {e : TypeId} {v : Value} {xs : List Value} (ho : w.ownsRow b e size v n xs) (hM : ∀ k, v.ownBlock = some k → ¬ M k) (hT : e ≠ T) : w'.ownsRow b e size v n xs := by
  obtain ⟨h1, h2⟩ := ho
  refine ⟨h1, ?_⟩
  rcases h2 with h2 | ⟨g, cap, cur, hv, hg, hh, r⟩
  · exact .inl h2
  · exact .inr ⟨g, cap, cur, hv, hg, h.box hh (hM g (by rw [hv]; rfl)) hT, r⟩
/-- No row is a map. -/
theorem own_noMap {w : World} {b size n k : Nat} {e : TypeId} {v : Value} {xs : List Value} (ho : w.ownsRow b e size v n xs) (hk : v.ownBlock = some k) {es : Array MapEntry} {c : Nat} : w.heap[k]? ≠ some (.map es c) := by
  rcases ho.2 with ⟨rfl, _⟩ | ⟨g, cap, cur, rfl, _, hg, _⟩
  · simp [Value.ownBlock] at hk
  · simp only [Value.ownBlock, Option.some.injEq] at hk
    subst hk
    rw [hg]; exact fun h => by cases h
theorem PredT.turn {b : Nat} {w w' : World} {h : Value} {p : List C} (k : PredT b w h p) (ht : TurnT M T base w w') (hM : ∀ q, M q → (∃ es c, w.heap[q]? = some (.map es c)) ∨ q < b) (h1 : 52 ≠ T) (h2 : 49 ≠ T) : PredT b w' h p := by
  obtain ⟨us, e, p1, p2⟩ := k
  have key : ∀ {e : TypeId} {size n : Nat} {v : Value} {xs : List Value}, w.ownsRow b e size v n xs → ∀ q, v.ownBlock = some q → ¬ M q := fun ho q hq hm => by
    rcases hM q hm with ⟨es, c, hh⟩ | hl
    · exact own_noMap ho hq hh
    · have := own_base ho q hq; omega
  exact ⟨us, e, ht.own p1 (key p1) h1, fun x hx => ht.own (p2 x hx) (key (p2 x hx)) h2⟩
theorem MapE.turn {w w' : World} (h : TurnT M T base w w') {b : Nat} {d : TypeDesc} {E : List (Value × Value)} (hm : MapE w b d E) (hM : ¬ M b) : MapE w' b d E := by
  obtain ⟨es, clock, h1, h2⟩ := hm
  exact ⟨es, clock, h.heap h1 hM (fun _ _ e => by cases e), h2⟩
end Go.Proofs.YtckigoeomkphhaaGreat
