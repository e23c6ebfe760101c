/- What memory holds, read: rows of structs, values, constraints, predicates, attributes; worlds that only grew and drew.
A table of ads (23): what it knows, as a list by the publishers. (Plain, and over maps told by entries.)
strings.Compare, strings.HasPrefix at this dump, laid by the kit's lay-shelf and lay-plain.
Values compared: value.Compare, the reference's Compare; what a value may be.
Regions, plainly: cuts, spans, what is in a region, one without another; what predicates ask of names. No program is in sight.
The reference's Compare of values.
slices.IndexFunc, slices.ContainsFunc at attributes, constraints, values (printed by gen_find.py). -/
import Derived.Sort.Grow
import Derived.Deep.Draws
import Derived.Shelf.Small.Strs
import Derived.Shelf.Strings.Prefix
import Derived.Test.YtabegbelkfhbcaaGreatProg
import Derived.Test.YtabegbelkfhbcaaGreatRows
import Derived.WalkKit
import Derived.BigQuiet
import Derived.Deep.QuietTactic
import Derived.Deep.RegionWith
import Derived.Deep.RegionLaw
import Derived.Lib.Hide
import Derived.Deep.DeepCutAuto
import Derived.WalkSpells
import Derived.WalkLawsBesides
import GoSem.Op.String
import Derived.Sort.Walk0
import Derived.Test.YtabegbelkfhbcaaGreatPk1
namespace Go.Proofs.YtabegbelkfhbcaaGreat
open Go.RowKit

/-- w' is w, with more memory and more draws: nothing that was there has turned. -/
def Grew (w w' : World) : Prop := Ext w w' ∧ w.drawn ≤ w'.drawn
theorem Grew.refl (w : World) : Grew w w := ⟨Ext.refl w, Nat.le_refl _⟩
theorem Grew.trans {a b c : World} (h : Grew a b) (k : Grew b c) : Grew a c := ⟨h.1.trans k.1, Nat.le_trans h.2 k.2⟩
theorem Grew.drew {a w : World} (h : Grew a w) : Grew a w.drew := ⟨h.1.drew, Nat.le_succ_of_le h.2⟩
theorem Grew.alloc {a w : World} (h : Grew a w) (o : Obj) : Grew a (w.alloc o) := ⟨h.1.alloc o, h.2⟩
theorem Grew.drewN {a w : World} (h : Grew a w) (n : Nat) : Grew a (w.drewN n) := ⟨⟨h.1.os, h.1.tape, h.1.output, h.1.size, h.1.block⟩, Nat.le_trans h.2 (Nat.le_add_right _ _)⟩
theorem Ext.drewN {a w : World} (h : Ext a w) (n : Nat) : Ext a (w.drewN n) := ⟨h.os, h.tape, h.output, h.size, h.block⟩
/-- In the sort's words. -/
theorem Grew.grown {w w' : World} (h : Grew w w') : ∃ q os, w' = Go.Sort.grow (w.drewN q) os := by
  obtain ⟨hx, hd⟩ := h
  refine ⟨w'.drawn - w.drawn, w'.heap.extract w.heap.size w'.heap.size, ?_⟩
  obtain ⟨wh, wt, wd, wo, wp⟩ := w
  obtain ⟨vh, vt, vd, vo, vp⟩ := w'
  have h1 : vt = wt := hx.tape
  have h2 : vo = wo := hx.os
  have h3 : vp = wp := hx.output
  have h4 : wh.size ≤ vh.size := hx.size
  have h5 : ∀ k, k < wh.size → vh[k]? = wh[k]? := hx.block
  subst h1; subst h2; subst h3
  have hdd : wd + (vd - wd) = vd := by have : wd ≤ vd := hd; omega
  have hh : vh = wh ++ vh.extract wh.size vh.size := by
    apply Array.ext_getElem?
    intro i
    rw [Array.getElem?_append]
    split
    · rename_i hi; exact h5 i hi
    · rename_i hi
      rw [Array.getElem?_extract]
      by_cases hv : i < vh.size
      · rw [if_pos (by omega)]; congr 1; omega
      · rw [if_neg (by omega), Array.getElem?_eq_none (by omega)]
  show (⟨vh, vt, vd, vo, vp⟩ : World) = ⟨wh ++ vh.extract wh.size vh.size, vt, wd + (vd - wd), vo, vp⟩
  rw [hdd, ← hh]
theorem Grew.of_grown (w : World) (q : Nat) (os : Array Obj) : Grew w (Go.Sort.grow (w.drewN q) os) := by
  refine ⟨⟨rfl, rfl, rfl, ?_, fun k hk => ?_⟩, Nat.le_add_right _ _⟩
  · show w.heap.size ≤ (w.heap ++ os).size
    rw [Array.size_append]; omega
  · show (w.heap ++ os)[k]? = w.heap[k]?
    rw [Array.getElem?_append_left hk]

/-! Rows of structs -/
section
variable {α : Type}
theorem flat_len (f : α → List Value) (sz : Nat) (hf : ∀ x, (f x).length = sz) (xs : List α) : (xs.flatMap f).length = xs.length * sz := by
  induction xs with
  | nil => simp
  | cons x xs ih => rw [List.flatMap_cons, List.length_append, ih, hf, List.length_cons, Nat.succ_mul]; omega
theorem flat_get (f : α → List Value) (sz : Nat) (hf : ∀ x, (f x).length = sz) : ∀ (xs : List α) (k : Nat) (hk : k < xs.length) (j : Nat), j < sz → (xs.flatMap f)[k * sz + j]? = (f xs[k])[j]?
  | [], k, hk, _, _ => by simp at hk
  | x :: xs, 0, _, j, hj => by
    rw [List.flatMap_cons, Nat.zero_mul, Nat.zero_add, List.getElem?_append_left (by rw [hf]; exact hj)]; rfl
  | x :: xs, k + 1, hk, j, hj => by
    rw [List.flatMap_cons, List.getElem?_append_right (by rw [hf, Nat.succ_mul]; omega), hf]
    have e : (k + 1) * sz + j - sz = k * sz + j := by rw [Nat.succ_mul]; omega
    rw [e, flat_get f sz hf xs k (by simpa using hk) j hj]; rfl
theorem flat_take (f : α → List Value) (sz : Nat) (hf : ∀ x, (f x).length = sz) : ∀ (xs : List α) (k : Nat), (xs.flatMap f).take (k * sz) = (xs.take k).flatMap f
  | [], k => by simp
  | x :: xs, 0 => by simp
  | x :: xs, k + 1 => by
    rw [List.flatMap_cons, List.take_succ_cons, List.flatMap_cons, Nat.succ_mul, Nat.add_comm, List.take_append, hf, List.take_of_length_le (by rw [hf]; omega), Nat.add_sub_cancel_left, flat_take f sz hf xs k]
theorem flat_drop (f : α → List Value) (sz : Nat) (hf : ∀ x, (f x).length = sz) : ∀ (xs : List α) (k : Nat), (xs.flatMap f).drop (k * sz) = (xs.drop k).flatMap f
  | [], k => by simp
  | x :: xs, 0 => by simp
  | x :: xs, k + 1 => by
    rw [List.flatMap_cons, List.drop_succ_cons, Nat.succ_mul, Nat.add_comm, List.drop_append, hf, List.drop_of_length_le (by rw [hf]; omega), Nat.add_sub_cancel_left, flat_drop f sz hf xs k, List.nil_append]
end

theorem Row.cell {w : World} {size n m cap : Nat} {a : Option Addr} {xs : List Value} {u : Value} (h : Row w size (.slice a m cap) n xs) {j : Nat} (hj : xs[j]? = some u) (hn : 0 < n) : ∃ B o, a = some ⟨B, o, none⟩ ∧ w.cell? ⟨B, o + j, none⟩ = some u := by
  obtain ⟨_, a', cap', hv, hc, _, _, hspot, hcell⟩ := h
  simp only [Value.slice.injEq] at hv
  obtain ⟨rfl, rfl, rfl⟩ := hv
  obtain ⟨p, rfl, hcl⟩ := hcell j u hj
  have := hspot p rfl (by omega)
  obtain ⟨pb, po, ps⟩ := p
  simp only at this
  subst this
  exact ⟨pb, po, rfl, hcl⟩
theorem Row.shape {w : World} {size n : Nat} {v : Value} {xs : List Value} (h : Row w size v n xs) : ∃ a cap, v = .slice a n cap ∧ n ≤ cap ∧ cap ≤ maxLen := by
  obtain ⟨_, a, cap, h1, h2, h3, _⟩ := h; exact ⟨a, cap, h1, h2, h3⟩
theorem Row.base {w : World} {size n m cap : Nat} {a : Option Addr} {xs : List Value} (h : Row w size (.slice a m cap) n xs) (hn : 0 < n) (hs : 0 < size) : ∃ B o, a = some ⟨B, o, none⟩ := by
  have hl := h.1
  have : 0 < xs.length := by rw [hl]; exact Nat.mul_pos hn hs
  obtain ⟨B, o, e, _⟩ := Row.cell h (j := 0) (List.getElem?_eq_getElem this) hn
  exact ⟨B, o, e⟩
theorem Row.cellAt {w : World} {size n m cap B o : Nat} {xs : List Value} {u : Value} (h : Row w size (.slice (some ⟨B, o, none⟩) m cap) n xs) {j : Nat} (hj : xs[j]? = some u) (hn : 0 < n) : w.cell? ⟨B, o + j, none⟩ = some u := by
  obtain ⟨B', o', e, hc⟩ := Row.cell h hj hn
  cases e; exact hc

/-- A part of a row. -/
theorem Row.sub {w : World} {size n cap : Nat} {a : Option Addr} {xs : List Value} (h : Row w size (.slice a n cap) n xs) (i j : Nat) (hij : i ≤ j) (hj : j ≤ n) (c : Nat) (hc : j - i ≤ c) (hcc : c ≤ cap - i) : Row w size (.slice (if cap = i then a else a.map (·.add (i * size))) (j - i) c) (j - i) ((xs.take (j * size)).drop (i * size)) := by
  obtain ⟨hl, a', cap', hv, hcp, hm, hnil, hspot, hcell⟩ := h
  simp only [Value.slice.injEq] at hv
  obtain ⟨rfl, -, rfl⟩ := hv
  refine ⟨?_, _, _, rfl, hc, by omega, fun he => ?_, fun p hp h0 => ?_, fun k u hk => ?_⟩
  · rw [List.length_drop, List.length_take, hl, Nat.sub_mul, Nat.min_eq_left (Nat.mul_le_mul_right _ hj)]
  · split at he
    · have := hnil he; omega
    · cases a with
      | none => have := hnil rfl; omega
      | some p => simp at he
  · split at hp
    · exact hspot p hp (by omega)
    · cases a with
      | none => simp at hp
      | some p' =>
        simp at hp
        rw [← hp]
        unfold Addr.add
        split
        · exact hspot p' rfl (by omega)
        · rfl
  · rw [List.getElem?_drop, List.getElem?_take] at hk
    split at hk
    · rename_i hlt
      obtain ⟨p, hp, hcl⟩ := hcell _ _ hk
      have hne : ¬ cap = i := by
        intro he
        have : j = i := by omega
        subst this
        omega
      rw [if_neg hne, hp]
      refine ⟨p.add (i * size), rfl, ?_⟩
      have hps := hspot p hp (by omega)
      obtain ⟨pb, po, ps⟩ := p
      simp only at hps
      subst hps
      by_cases h0 : i * size = 0
      · simp only [Addr.add, h0, if_true]
        rw [h0, Nat.zero_add] at hcl
        exact hcl
      · simp only [Addr.add, h0, if_false]
        rw [Nat.add_assoc]; exact hcl
    · cases hk

/-! Values, constraints, predicates, attributes -/
def vC (v : V) : List Value := [.int .i64 v.k, .int .i64 v.n, .string (strOf v.s), .bool v.b]
theorem vC_len (v : V) : (vC v).length = 4 := rfl
def SetR (W : World) (h : Value) (l : List V) : Prop := Row W 4 h l.length (l.flatMap vC)
theorem SetR.ext {W W' : World} {h : Value} {l : List V} (k : SetR W h l) (hx : Ext W W') : SetR W' h l := Row.ext k hx
theorem SetR.nil (W : World) : SetR W (.slice none 0 0) [] := Row.nil W 4
theorem SetR.at {W : World} {a : Option Addr} {n cap : Nat} {l : List V} (h : SetR W (.slice a n cap) l) {k : Nat} (hk : k < l.length) :
    ∃ B o, a = some ⟨B, o, none⟩ ∧ W.cell? ⟨B, o + k * 4, none⟩ = some (.int .i64 l[k].k) ∧ W.cell? ⟨B, o + k * 4 + 1, none⟩ = some (.int .i64 l[k].n) ∧ W.cell? ⟨B, o + k * 4 + 2, none⟩ = some (.string (strOf l[k].s)) ∧ W.cell? ⟨B, o + k * 4 + 3, none⟩ = some (.bool l[k].b) := by
  obtain ⟨B, o, rfl⟩ := Row.base h (by omega) (by decide)
  have g := fun j hj => flat_get vC 4 vC_len l k hk j hj
  exact ⟨B, o, rfl, Row.cellAt h (g 0 (by decide)) (by omega), Row.cellAt h (g 1 (by decide)) (by omega), Row.cellAt h (g 2 (by decide)) (by omega), Row.cellAt h (g 3 (by decide)) (by omega)⟩

/-- A constraint where it stands: its set's slice. -/
structure CS where
  c : C
  h : Value
def csC (x : CS) : List Value := [.string (strOf x.c.name), .int .i64 x.c.op, .int .i64 x.c.v.k, .int .i64 x.c.v.n, .string (strOf x.c.v.s), .bool x.c.v.b, x.h]
theorem csC_len (x : CS) : (csC x).length = 7 := rfl
def PredR (W : World) (v : Value) (p : List C) : Prop := ∃ us : List CS, us.map CS.c = p ∧ Row W 7 v us.length (us.flatMap csC) ∧ ∀ x ∈ us, SetR W x.h x.c.set
theorem PredR.ext {W W' : World} {v : Value} {p : List C} (h : PredR W v p) (hx : Ext W W') : PredR W' v p := by
  obtain ⟨us, h1, h2, h3⟩ := h
  exact ⟨us, h1, h2.ext hx, fun x hm => (h3 x hm).ext hx⟩
theorem PredR.nil (W : World) : PredR W (.slice none 0 0) [] := ⟨[], rfl, Row.nil W 7, fun _ h => by cases h⟩
theorem PredR.shape {W : World} {v : Value} {p : List C} (h : PredR W v p) : ∃ a cap, v = .slice a p.length cap ∧ p.length ≤ cap ∧ cap ≤ maxLen := by
  obtain ⟨us, rfl, h2, _⟩ := h
  obtain ⟨a, cap, e, h3, h4⟩ := Row.shape h2
  exact ⟨a, cap, by rw [e, List.length_map], by rw [List.length_map]; exact h3, h4⟩
theorem PredR.at {W : World} {a : Option Addr} {n cap : Nat} {p : List C} (h : PredR W (.slice a n cap) p) {k : Nat} (hk : k < p.length) :
    ∃ B o sa sc, a = some ⟨B, o, none⟩ ∧ W.cell? ⟨B, o + k * 7, none⟩ = some (.string (strOf p[k].name)) ∧ W.cell? ⟨B, o + k * 7 + 1, none⟩ = some (.int .i64 p[k].op) ∧ W.cell? ⟨B, o + k * 7 + 2, none⟩ = some (.int .i64 p[k].v.k) ∧ W.cell? ⟨B, o + k * 7 + 3, none⟩ = some (.int .i64 p[k].v.n) ∧
      W.cell? ⟨B, o + k * 7 + 4, none⟩ = some (.string (strOf p[k].v.s)) ∧ W.cell? ⟨B, o + k * 7 + 5, none⟩ = some (.bool p[k].v.b) ∧ W.cell? ⟨B, o + k * 7 + 6, none⟩ = some (.slice sa p[k].set.length sc) ∧ SetR W (.slice sa p[k].set.length sc) p[k].set := by
  obtain ⟨us, rfl, h2, h3⟩ := h
  have hk' : k < us.length := by simpa using hk
  obtain ⟨B, o, rfl⟩ := Row.base h2 (by omega) (by decide)
  have g := fun j hj => flat_get csC 7 csC_len us k hk' j hj
  have e : (us.map CS.c)[k] = us[k].c := by simp
  have hs := h3 us[k] (List.getElem_mem hk')
  obtain ⟨sa, sc, es, _, _⟩ := Row.shape hs
  rw [e]
  have g6 := Row.cellAt h2 (g 6 (by decide)) (by omega)
  rw [es] at hs
  refine ⟨B, o, sa, sc, rfl, Row.cellAt h2 (g 0 (by decide)) (by omega), Row.cellAt h2 (g 1 (by decide)) (by omega), Row.cellAt h2 (g 2 (by decide)) (by omega), Row.cellAt h2 (g 3 (by decide)) (by omega), Row.cellAt h2 (g 4 (by decide)) (by omega), Row.cellAt h2 (g 5 (by decide)) (by omega), ?_, hs⟩
  rw [← es]; exact g6
theorem PredR.mk {W : World} {v : Value} (us : List CS) (h : Row W 7 v us.length (us.flatMap csC)) (hs : ∀ x ∈ us, SetR W x.h x.c.set) : PredR W v (us.map CS.c) := ⟨us, rfl, h, hs⟩

def aC (x : List UInt8 × V) : List Value := [.string (strOf x.1), .int .i64 x.2.k, .int .i64 x.2.n, .string (strOf x.2.s), .bool x.2.b]
theorem aC_len (x : List UInt8 × V) : (aC x).length = 5 := rfl
def AttrR (W : World) (v : Value) (l : List (List UInt8 × V)) : Prop := Row W 5 v l.length (l.flatMap aC)
theorem AttrR.ext {W W' : World} {v : Value} {l : List (List UInt8 × V)} (h : AttrR W v l) (hx : Ext W W') : AttrR W' v l := Row.ext h hx
theorem AttrR.nil (W : World) : AttrR W (.slice none 0 0) [] := Row.nil W 5
theorem AttrR.at {W : World} {a : Option Addr} {n cap : Nat} {l : List (List UInt8 × V)} (h : AttrR W (.slice a n cap) l) {k : Nat} (hk : k < l.length) :
    ∃ B o, a = some ⟨B, o, none⟩ ∧ W.cell? ⟨B, o + k * 5, none⟩ = some (.string (strOf l[k].1)) ∧ W.cell? ⟨B, o + k * 5 + 1, none⟩ = some (.int .i64 l[k].2.k) ∧ W.cell? ⟨B, o + k * 5 + 2, none⟩ = some (.int .i64 l[k].2.n) ∧ W.cell? ⟨B, o + k * 5 + 3, none⟩ = some (.string (strOf l[k].2.s)) ∧ W.cell? ⟨B, o + k * 5 + 4, none⟩ = some (.bool l[k].2.b) := by
  obtain ⟨B, o, rfl⟩ := Row.base h (by omega) (by decide)
  have g := fun j hj => flat_get aC 5 aC_len l k hk j hj
  exact ⟨B, o, rfl, Row.cellAt h (g 0 (by decide)) (by omega), Row.cellAt h (g 1 (by decide)) (by omega), Row.cellAt h (g 2 (by decide)) (by omega), Row.cellAt h (g 3 (by decide)) (by omega), Row.cellAt h (g 4 (by decide)) (by omega)⟩

end Go.Proofs.YtabegbelkfhbcaaGreat

namespace Go.Proofs.YtabegbelkfhbcaaGreat
open Go.RowKit Go.MapKept

/-- What is known of one publisher: its ad and the link; h is where the ad's predicate lies. -/
structure KN where
  link : Int
  pub : Int
  ver : Nat
  p : List C
  h : Value
def knV (k : KN) : Value := .agg #[.int .i64 k.link, .int .i64 k.pub, .int .u64 (k.ver : Nat), k.h]
def eK (T : List KN) : List (Value × Value) := T.map fun k => (.int .i64 k.pub, knV k)
def putF : List KN → KN → List KN
  | [], k => [k]
  | x :: r, k => if x.pub = k.pub then k :: r else x :: putF r k
def delF (T : List KN) (p : Int) : List KN := T.filter fun x => !decide (x.pub = p)
def getF (T : List KN) (p : Int) : Option KN := T.find? fun x => decide (x.pub = p)
def Pubs (T : List KN) : Prop := (T.map KN.pub).Nodup

theorem getF_some {T : List KN} {p : Int} {k : KN} (h : getF T p = some k) : k ∈ T ∧ k.pub = p := ⟨List.mem_of_find?_eq_some h, by have := List.find?_some h; exact of_decide_eq_true this⟩
theorem getF_none {T : List KN} {p : Int} (h : getF T p = none) : ∀ k ∈ T, k.pub ≠ p := fun k hk => of_decide_eq_false (by simpa using List.find?_eq_none.1 h k hk)
theorem getF_no {T : List KN} {p : Int} (h : ∀ k ∈ T, k.pub ≠ p) : getF T p = none := List.find?_eq_none.2 fun k hk => by simpa using h k hk
theorem getF_mem {T : List KN} (hn : Pubs T) {k : KN} (hk : k ∈ T) : getF T k.pub = some k := by
  induction T with
  | nil => cases hk
  | cons x r ih =>
    have h1 := List.nodup_cons.1 hn
    unfold getF
    rw [List.find?_cons]
    rcases List.mem_cons.1 hk with rfl | hk
    · simp
    · have : x.pub ≠ k.pub := fun e => h1.1 (by rw [show x.pub = k.pub from e]; exact List.mem_map.2 ⟨k, hk, rfl⟩)
      simp only [this, decide_false]
      exact ih h1.2 hk
theorem putF_mem {T : List KN} {k x : KN} (h : x ∈ putF T k) : x = k ∨ x ∈ T := by
  induction T with
  | nil => exact .inl (List.mem_singleton.1 h)
  | cons y r ih =>
    unfold putF at h
    split at h
    · rcases List.mem_cons.1 h with h | h
      · exact .inl h
      · exact .inr (List.mem_cons_of_mem _ h)
    · rcases List.mem_cons.1 h with h | h
      · exact .inr (by rw [h]; exact List.mem_cons_self)
      · rcases ih h with h | h
        · exact .inl h
        · exact .inr (List.mem_cons_of_mem _ h)
theorem putF_no {T : List KN} {k : KN} (h : ∀ x ∈ T, x.pub ≠ k.pub) : putF T k = T ++ [k] := by
  induction T with
  | nil => rfl
  | cons y r ih =>
    unfold putF
    rw [if_neg (h y List.mem_cons_self), ih fun x hx => h x (List.mem_cons_of_mem _ hx)]
    rfl
theorem putF_set {T : List KN} {k u : KN} {j : Nat} (hn : Pubs T) (hj : T[j]? = some u) (hu : u.pub = k.pub) : putF T k = T.set j k := by
  induction T generalizing j with
  | nil => cases hj
  | cons y r ih =>
    have h1 := List.nodup_cons.1 hn
    unfold putF
    cases j with
    | zero => rw [List.getElem?_cons_zero] at hj; cases hj; rw [if_pos hu]; rfl
    | succ j =>
      rw [List.getElem?_cons_succ] at hj
      have hy : y.pub ≠ k.pub := fun e => h1.1 (by rw [show y.pub = u.pub from e.trans hu.symm]; exact List.mem_map.2 ⟨u, List.mem_of_getElem? hj, rfl⟩)
      rw [if_neg hy, ih h1.2 hj]
      rfl
theorem putF_pubs {T : List KN} {k : KN} (hn : Pubs T) : Pubs (putF T k) := by
  induction T with
  | nil => show [k.pub].Nodup; simp
  | cons y r ih =>
    have h1 := List.nodup_cons.1 hn
    unfold putF
    split
    · rename_i e; show (k.pub :: r.map KN.pub).Nodup; rw [← e]; exact hn
    · rename_i e
      show (y.pub :: (putF r k).map KN.pub).Nodup
      refine List.nodup_cons.2 ⟨fun hm => ?_, ih h1.2⟩
      obtain ⟨x, hx, he⟩ := List.mem_map.1 hm
      rcases putF_mem hx with rfl | hx
      · exact e he.symm
      · exact h1.1 (he ▸ List.mem_map.2 ⟨x, hx, rfl⟩)
theorem putF_get {T : List KN} {k : KN} (q : Int) : getF (putF T k) q = if k.pub = q then some k else getF T q := by
  induction T with
  | nil => unfold putF getF; by_cases h : k.pub = q <;> simp [h]
  | cons y r ih =>
    unfold putF
    by_cases hy : y.pub = k.pub
    · rw [if_pos hy]
      unfold getF
      by_cases h : k.pub = q
      · simp [h]
      · have : y.pub ≠ q := fun e => h (hy.symm.trans e)
        simp [h, this]
    · rw [if_neg hy]
      by_cases h2 : y.pub = q
      · have : k.pub ≠ q := fun e => hy (h2.trans e.symm)
        unfold getF
        simp [h2, this]
      · unfold getF at ih ⊢
        rw [List.find?_cons_of_neg (by simpa using h2), ih, List.find?_cons_of_neg (by simpa using h2)]
theorem putF_len {T : List KN} {k : KN} : (putF T k).length ≤ T.length + 1 := by
  induction T with
  | nil => exact Nat.le_refl _
  | cons y r ih => unfold putF; split <;> simp <;> omega
theorem delF_pubs {T : List KN} {p : Int} (hn : Pubs T) : Pubs (delF T p) := List.Nodup.sublist (List.Sublist.map _ List.filter_sublist) hn
theorem delF_mem {T : List KN} {p : Int} {x : KN} : x ∈ delF T p ↔ x ∈ T ∧ x.pub ≠ p := by unfold delF; rw [List.mem_filter]; simp
theorem delF_no {T : List KN} {p : Int} (h : ∀ k ∈ T, k.pub ≠ p) : delF T p = T := List.filter_eq_self.2 fun k hk => by simpa using h k hk
theorem delF_get {T : List KN} {p : Int} (q : Int) : getF (delF T p) q = if p = q then none else getF T q := by
  split
  · rename_i e; subst e; exact getF_no fun k hk => (delF_mem.1 hk).2
  · rename_i e
    unfold getF delF
    rw [List.find?_filter]
    congr 1; funext x
    by_cases h : x.pub = q
    · simp [h, Ne.symm e]
    · simp [h]
theorem delF_erase {T : List KN} {p : Int} {u : KN} {j : Nat} (hn : Pubs T) (hj : T[j]? = some u) (hu : u.pub = p) : delF T p = T.eraseIdx j := by
  induction T generalizing j with
  | nil => cases hj
  | cons y r ih =>
    have h1 := List.nodup_cons.1 hn
    unfold delF
    cases j with
    | zero =>
      rw [List.getElem?_cons_zero] at hj; cases hj
      rw [List.filter_cons_of_neg (by simpa using hu), List.eraseIdx_cons_zero]
      exact delF_no fun k hk e => h1.1 (by rw [hu.trans e.symm]; exact List.mem_map.2 ⟨k, hk, rfl⟩)
    | succ j =>
      rw [List.getElem?_cons_succ] at hj
      have hy : y.pub ≠ p := fun e => h1.1 (by rw [show y.pub = u.pub from e.trans hu.symm]; exact List.mem_map.2 ⟨u, List.mem_of_getElem? hj, rfl⟩)
      rw [List.filter_cons_of_pos (by simpa using hy), List.eraseIdx_cons_succ]
      exact congrArg (y :: ·) (ih h1.2 hj)
theorem delF_len {T : List KN} {p : Int} : (delF T p).length ≤ T.length := List.length_filter_le _ _

/-! As the map's entries tell it. -/
theorem key_inj {p q : Int} (h : Value.int .i64 p = Value.int .i64 q) : p = q := by simpa using h
theorem eK_pubs {T : List KN} (h : ((eK T).map (·.1)).Nodup) : Pubs T := by
  unfold Pubs
  have e : (eK T).map (·.1) = (T.map KN.pub).map (Value.int .i64) := by unfold eK; rw [List.map_map, List.map_map]; rfl
  rw [e] at h
  exact List.Pairwise.of_map _ (fun a b hne e => hne (by rw [e])) h
theorem eK_none {T : List KN} {p : Int} (h : ∀ x ∈ eK T, x.1 ≠ Value.int .i64 p) : ∀ k ∈ T, k.pub ≠ p := fun k hk e => h _ (List.mem_map.2 ⟨k, hk, rfl⟩) (by rw [e])
theorem eK_at {T : List KN} {p : Int} {j : Nat} {v : Value} (h : (eK T)[j]? = some (Value.int .i64 p, v)) : ∃ u, T[j]? = some u ∧ u.pub = p ∧ v = knV u := by
  unfold eK at h
  rw [List.getElem?_map] at h
  cases ht : T[j]? with
  | none => rw [ht] at h; cases h
  | some u =>
    rw [ht] at h
    simp only [Option.map_some, Option.some.injEq, Prod.mk.injEq] at h
    exact ⟨u, rfl, key_inj h.1, h.2.symm⟩
theorem eK_put {w : World} {b : Nat} {d : TypeDesc} {T : List KN} {k : KN} (hn : Pubs T)
    (h : ((∀ p ∈ eK T, p.1 ≠ Value.int .i64 k.pub) ∧ MapE w b d (eK T ++ [(Value.int .i64 k.pub, knV k)])) ∨ ∃ (j : Nat) (u : Value), (eK T)[j]? = some (Value.int .i64 k.pub, u) ∧ MapE w b d ((eK T).set j (Value.int .i64 k.pub, knV k))) : MapE w b d (eK (putF T k)) := by
  rcases h with ⟨h1, h2⟩ | ⟨j, u, h1, h2⟩
  · rw [putF_no (eK_none h1)]
    unfold eK at h2 ⊢
    rw [List.map_append]; exact h2
  · obtain ⟨x, hx, hp, _⟩ := eK_at h1
    rw [putF_set hn hx hp]
    unfold eK at h2 ⊢
    rw [List.map_set]; exact h2
theorem eK_del {w : World} {b : Nat} {d : TypeDesc} {T : List KN} {p : Int} (hn : Pubs T)
    (h : ((∀ x ∈ eK T, x.1 ≠ Value.int .i64 p) ∧ MapE w b d (eK T)) ∨ ∃ (j : Nat) (u : Value), (eK T)[j]? = some (Value.int .i64 p, u) ∧ MapE w b d ((eK T).eraseIdx j)) : MapE w b d (eK (delF T p)) := by
  rcases h with ⟨h1, h2⟩ | ⟨j, u, h1, h2⟩
  · rw [delF_no (eK_none h1)]; exact h2
  · obtain ⟨x, hx, hp, _⟩ := eK_at h1
    rw [delF_erase hn hx hp]
    unfold eK at h2 ⊢
    rw [map_eraseIdx']; exact h2
theorem eK_look {T : List KN} (hn : Pubs T) {p : Int} {j : Nat} {v : Value} (h : (eK T)[j]? = some (Value.int .i64 p, v)) : ∃ u, getF T p = some u ∧ v = knV u := by
  obtain ⟨u, h1, h2, h3⟩ := eK_at h
  exact ⟨u, h2 ▸ getF_mem hn (List.mem_of_getElem? h1), h3⟩

/-! Those of which something is so, rising. -/
def RisK (T : List KN) (q : KN → Bool) (ks : List KN) : Prop := ks.Perm (T.filter q) ∧ ks.Pairwise fun a b => a.pub < b.pub
theorem RisK.unique {T T' : List KN} {q : KN → Bool} {ks ls : List KN} (h : RisK T q ks) (k : RisK T' q ls) (hT : ∀ x, x ∈ T.filter q ↔ x ∈ T'.filter q) : ks = ls :=
  up_unique (wo_int.comap KN.pub) ks ls (h.2.imp fun h => int_lt.2 h) (k.2.imp fun h => int_lt.2 h) fun z => by rw [h.1.mem_iff, k.1.mem_iff]; exact hT z
theorem RisK.mem {T : List KN} {q : KN → Bool} {ks : List KN} (h : RisK T q ks) {x : KN} : x ∈ ks ↔ x ∈ T ∧ q x = true := by rw [h.1.mem_iff, List.mem_filter]
theorem RisK.len {T : List KN} {q : KN → Bool} {ks : List KN} (h : RisK T q ks) : ks.length = (T.filter q).length := h.1.length_eq
/-- Numbers that are those publishers' in some order, sorted, are they. -/
theorem ris_of {T : List KN} {q : KN → Bool} (hn : Pubs T) {pre : List KN} (hp : pre.Perm (T.filter q)) {r : List Int} (hr : r.Perm (pre.map KN.pub)) (hs : r.Pairwise fun a b => a ≤ b) : ∃ ks, RisK T q ks ∧ r = ks.map KN.pub := by
  have hnd : (T.filter q |>.map KN.pub).Nodup := List.Nodup.sublist (List.Sublist.map _ List.filter_sublist) hn
  have hrn : r.Nodup := hr.nodup_iff.2 ((hp.map KN.pub).nodup_iff.2 hnd)
  have hlt : r.Pairwise fun a b => a < b := (hs.and hrn).imp fun h => by have := h.1; have := h.2; omega
  have hmem : ∀ x ∈ r, ∃ k, getF T x = some k ∧ k ∈ T.filter q := fun x hx => by
    have hx := (hr.trans (hp.map KN.pub)).mem_iff.1 hx
    obtain ⟨k, hk, rfl⟩ := List.mem_map.1 hx
    exact ⟨k, getF_mem hn (List.mem_filter.1 hk).1, hk⟩
  let f : Int → KN := fun x => (getF T x).getD ⟨0, 0, 0, [], .slice none 0 0⟩
  have hf : ∀ x ∈ r, (f x).pub = x ∧ f x ∈ T.filter q := fun x hx => by
    obtain ⟨k, h1, h2⟩ := hmem x hx
    show ((getF T x).getD _).pub = x ∧ (getF T x).getD _ ∈ _
    rw [h1]
    exact ⟨(getF_some h1).2, h2⟩
  have hmap : (r.map f).map KN.pub = r := by
    rw [List.map_map]
    exact (List.map_congr_left fun x hx => (hf x hx).1).trans (List.map_id r)
  refine ⟨r.map f, ⟨?_, ?_⟩, hmap.symm⟩
  · refine (List.perm_ext_iff_of_nodup ?_ ?_).2 fun x => ?_
    · exact List.Pairwise.of_map KN.pub (fun a b (hne : a.pub ≠ b.pub) (e : a = b) => hne (by rw [e])) (by show ((r.map f).map KN.pub).Nodup; rw [hmap]; exact hrn)
    · exact List.Pairwise.of_map KN.pub (fun a b (hne : a.pub ≠ b.pub) (e : a = b) => hne (by rw [e])) hnd
    · constructor
      · intro h
        obtain ⟨y, hy, rfl⟩ := List.mem_map.1 h
        exact (hf y hy).2
      · intro h
        have hx : x.pub ∈ r := (hr.trans (hp.map KN.pub)).mem_iff.2 (List.mem_map.2 ⟨x, h, rfl⟩)
        refine List.mem_map.2 ⟨x.pub, hx, ?_⟩
        show (getF T x.pub).getD _ = x
        rw [getF_mem hn (List.mem_filter.1 h).1]; rfl
  · have h2 : ((r.map f).map KN.pub).Pairwise fun a b => a < b := by rw [hmap]; exact hlt
    exact List.pairwise_map.1 h2
/-- All that are told of are struck. -/
theorem del_all (T : List KN) (ls : List Int) : ls.foldl delF T = T.filter fun x => !decide (x.pub ∈ ls) := by
  induction ls generalizing T with
  | nil => exact (List.filter_eq_self.2 fun k _ => by simp).symm
  | cons p r ih =>
    rw [List.foldl_cons, ih]
    unfold delF
    rw [List.filter_filter]
    congr 1; funext x
    by_cases h : x.pub = p <;> by_cases h2 : x.pub ∈ r <;> simp [h, h2]
theorem gone_are {T : List KN} {q : KN → Bool} {ks : List KN} (hn : Pubs T) (h : RisK T q ks) : (ks.map KN.pub).foldl delF T = T.filter fun x => !q x := by
  rw [del_all]
  refine List.filter_congr fun x hx => ?_
  cases hq : q x with
  | true =>
    have : x.pub ∈ ks.map KN.pub := List.mem_map.2 ⟨x, h.mem.2 ⟨hx, hq⟩, rfl⟩
    simp only [this, decide_true]
  | false =>
    have : x.pub ∉ ks.map KN.pub := fun hm => by
      obtain ⟨y, hy, e⟩ := List.mem_map.1 hm
      obtain ⟨hyT, hyq⟩ := h.mem.1 hy
      have h1 := getF_mem hn hx
      rw [← e, getF_mem hn hyT] at h1
      cases h1
      rw [hq] at hyq; cases hyq
    simp only [this, decide_false]
end Go.Proofs.YtabegbelkfhbcaaGreat

namespace Go.Proofs
open Go.Shelf
def Tryz.lays106_ren : Go.Shelf.Ren := ⟨fun | 106 => 101 | 213 => 135 | 265 => 155 | n => n, fun | 9 => 9 | 3 => 3 | n => n, fun | n => n⟩
theorem Tryz.lays106 : Go.Proofs.Lays.n106 Tryz.prog Tryz.lays106_ren := {
  mixed := by kernel_rfl
  f106 := Tryz.func101.trans (congrArg some (by kernel_rfl))
  f213 := Tryz.func135.trans (congrArg some (by kernel_rfl))
  f265 := Tryz.func155.trans (congrArg some (by kernel_rfl))
  t3 := Tryz.underlying3
  a3 := Tryz.isAgg3
  z3 := Tryz.sizeOf3
  v3 := Tryz.zeroValue3
  t9 := Tryz.underlying9
  a9 := Tryz.isAgg9
  z9 := Tryz.sizeOf9
  v9 := Tryz.zeroValue9 }
open Go.RowKit in
/-- strings.Compare: "Compare returns an integer comparing two strings lexicographically. The result will be 0 if a == b, -1 if a < b, and +1 if a > b.": IT RETURNS 'Lib.compareBytes a b'; the world is as it was. (LAID: no walk: one application.) -/
theorem Tryz.strings_Compare (a b : ByteArray) (w : World) :
    Calls Tryz.prog 101 #[.string a, .string b] w fun e w' => e = .returned (.int .i64 (Lib.compareBytes a.data.toList b.data.toList)) ∧ w' = w := Any.strings_Compare Tryz.lays106 a b w
def Tryz.lays99_ren : Go.Shelf.Ren := ⟨fun | 99 => 92 | 206 => 134 | n => n, fun | 9 => 9 | 4 => 4 | 3 => 3 | n => n, fun | n => n⟩
theorem Tryz.lays99 : Go.Proofs.Lays.n99 Tryz.prog Tryz.lays99_ren := {
  mixed := by kernel_rfl
  f99 := Tryz.func92.trans (congrArg some (by kernel_rfl))
  f206 := Tryz.func134.trans (congrArg some (by kernel_rfl))
  t3 := Tryz.underlying3
  a3 := Tryz.isAgg3
  z3 := Tryz.sizeOf3
  v3 := Tryz.zeroValue3
  t4 := Tryz.underlying4
  a4 := Tryz.isAgg4
  z4 := Tryz.sizeOf4
  v4 := Tryz.zeroValue4
  t9 := Tryz.underlying9
  a9 := Tryz.isAgg9
  z9 := Tryz.sizeOf9
  v9 := Tryz.zeroValue9 }
open Go.RowKit Go.Lib in
/-- strings.HasPrefix: "HasPrefix reports whether the string s begins with prefix.": IT RETURNS 'Lib.hasPrefix s prefix'; the world is as it was. (LAID: no walk: one application.) -/
theorem Tryz.strings_HasPrefix (s p : ByteArray) (w : World) :
    Calls Tryz.prog 92 #[.string s, .string p] w fun e w' => e = .returned (.bool (Lib.hasPrefix s.data.toList p.data.toList)) ∧ w' = w := Any.strings_HasPrefix Tryz.lays99 s p w
end Go.Proofs

namespace Go.Proofs.YtabegbelkfhbcaaGreat
open Go.RowKit

theorem cmpint_any (a b : Int) (w : World) : Calls Tryz.prog 102 #[.int .i64 a, .int .i64 b] w fun e w' => e = .returned (.int .i64 (Lib.compareInt a b)) ∧ w = w' := by
  rcases Int.lt_trichotomy a b with h | h | h
  · have e : Lib.compareInt a b = -1 := by unfold Lib.compareInt; rw [if_pos h]
    rw [e]
    have hd : decide (a < b) = true := decide_eq_true h
    clear e
    go_enter Tryz.func102, Tryz.ntmps102
    go_wp2
    go_ret
    exact ⟨rfl, rfl⟩
  · subst h
    have e : Lib.compareInt a a = 0 := wo_int.refl a
    rw [e]
    clear e
    go_enter Tryz.func102, Tryz.ntmps102
    go_wp2
    go_ret
    exact ⟨rfl, rfl⟩
  · have e : Lib.compareInt a b = 1 := by unfold Lib.compareInt; rw [if_neg (by omega), if_pos h]
    rw [e]
    have hd : decide (a < b) = false := decide_eq_false (by omega)
    have hd2 : decide (b < a) = true := decide_eq_true h
    clear e
    go_enter Tryz.func102, Tryz.ntmps102
    go_wp2
    go_ret
    exact ⟨rfl, rfl⟩
theorem cmpint64_any (a b : Int) (w : World) : Calls Tryz.prog 132 #[.int .i64 a, .int .i64 b] w fun e w' => e = .returned (.int .i64 (Lib.compareInt a b)) ∧ w = w' := by
  rcases Int.lt_trichotomy a b with h | h | h
  · have e : Lib.compareInt a b = -1 := by unfold Lib.compareInt; rw [if_pos h]
    rw [e]
    have hd : decide (a < b) = true := decide_eq_true h
    clear e
    go_enter Tryz.func132, Tryz.ntmps132
    go_wp2
    go_ret
    exact ⟨rfl, rfl⟩
  · subst h
    have e : Lib.compareInt a a = 0 := wo_int.refl a
    rw [e]
    clear e
    go_enter Tryz.func132, Tryz.ntmps132
    go_wp2
    go_ret
    exact ⟨rfl, rfl⟩
  · have e : Lib.compareInt a b = 1 := by unfold Lib.compareInt; rw [if_neg (by omega), if_pos h]
    rw [e]
    have hd : decide (a < b) = false := decide_eq_false (by omega)
    have hd2 : decide (b < a) = true := decide_eq_true h
    clear e
    go_enter Tryz.func132, Tryz.ntmps132
    go_wp2
    go_ret
    exact ⟨rfl, rfl⟩
theorem cmpstr_any (a b : List UInt8) (w : World) : Calls Tryz.prog 101 #[.string (strOf a), .string (strOf b)] w fun e w' => e = .returned (.int .i64 (Lib.compareBytes a b)) ∧ w = w' :=
  (Tryz.strings_Compare (strOf a) (strOf b) w).mono fun _ _ ⟨he, hw⟩ => ⟨he, hw.symm⟩

/-- The test of two numbers sa the walk spells it. -/
theorem beq_int_ne {a b : Int} (h : a ≠ b) : (a == b) = false := beq_eq_false_iff_ne.2 h

theorem rank_any (b : Bool) (w : World) : Calls Tryz.prog 133 #[.bool b] w fun e w' => e = .returned (.int .i64 (rankB b)) ∧ w' = w := by
  cases b
  all_goals
    go_enter Tryz.func133, Tryz.ntmps133
    go_wp2
    go_ret
    exact ⟨rfl, rfl⟩
theorem cmpint_back (a b : Int) (w : World) : Calls Tryz.prog 102 #[.int .i64 a, .int .i64 b] w fun e w' => e = .returned (.int .i64 (Lib.compareInt a b)) ∧ w' = w :=
  (cmpint_any a b w).mono fun _ _ ⟨h1, h2⟩ => ⟨h1, h2.symm⟩
theorem ta22 (v : Value) (w : World) : (Instr.typeAssert (.iface 2 v) 20 2 true).run Tryz.prog w = .ok (.tuple #[v, .bool true]) w := by kernel_rfl
theorem ta92 (v : Value) (w : World) : (Instr.typeAssert (.iface 9 v) 20 2 true).run Tryz.prog w = .ok (.tuple #[.int .i64 0, .bool false]) w := by kernel_rfl
theorem ta99 (v : Value) (w : World) : (Instr.typeAssert (.iface 9 v) 20 9 true).run Tryz.prog w = .ok (.tuple #[v, .bool true]) w := by kernel_rfl
theorem ta42 (v : Value) (w : World) : (Instr.typeAssert (.iface 4 v) 20 2 true).run Tryz.prog w = .ok (.tuple #[.int .i64 0, .bool false]) w := by kernel_rfl
theorem ta49 (v : Value) (w : World) : (Instr.typeAssert (.iface 4 v) 20 9 true).run Tryz.prog w = .ok (.tuple #[.string ⟨#[]⟩, .bool false]) w := by kernel_rfl
theorem ta44 (v : Value) (w : World) : (Instr.typeAssert (.iface 4 v) 20 4 true).run Tryz.prog w = .ok (.tuple #[v, .bool true]) w := by kernel_rfl
theorem ta02 (w : World) : (Instr.typeAssert .nilIface 20 2 true).run Tryz.prog w = .ok (.tuple #[.int .i64 0, .bool false]) w := by kernel_rfl
theorem ta09 (w : World) : (Instr.typeAssert .nilIface 20 9 true).run Tryz.prog w = .ok (.tuple #[.string ⟨#[]⟩, .bool false]) w := by kernel_rfl
theorem ta04 (w : World) : (Instr.typeAssert .nilIface 20 4 true).run Tryz.prog w = .ok (.tuple #[.bool false, .bool false]) w := by kernel_rfl

set_option maxRecDepth 100000 in
set_option maxHeartbeats 2000000 in
theorem compare_any (w : World) (ak an bk bn : Int) (sa sb : List UInt8) (ab bb : Bool) :
    Calls Tryz.prog 83 #[.agg #[.int .i64 ak, .int .i64 an, .string (strOf sa), .bool ab], .agg #[.int .i64 bk, .int .i64 bn, .string (strOf sb), .bool bb]] w
      fun e w' => e = .returned (.int .i64 (cmpV ⟨ak, an, sa, ab⟩ ⟨bk, bn, sb, bb⟩)) ∧ Grew w w' := by
  by_cases hk : ak = bk
  · subst hk
    by_cases h1 : ak = 1
    · subst h1
      have e : cmpV ⟨1, an, sa, ab⟩ ⟨1, bn, sb, bb⟩ = Lib.compareInt an bn := rfl
      rw [e]
      have t1 := ta22
      clear e
      go_enter Tryz.func83, Tryz.ntmps83
      go_wp2_with (first | (go_at_call 132; refine (cmpint64_any _ _ _).mono ?_; rintro e w' ⟨rfl, rfl⟩) | go_in)
      go_ret
      exact ⟨rfl, (((Grew.refl w).alloc _).alloc _).alloc _⟩
    · have d1 := beq_int_ne h1
      by_cases h2 : ak = 2
      · subst h2
        have e : cmpV ⟨2, an, sa, ab⟩ ⟨2, bn, sb, bb⟩ = Lib.compareBytes sa sb := rfl
        rw [e]
        have t1 := ta92
        have t2 := ta99
        clear e d1 h1
        go_enter Tryz.func83, Tryz.ntmps83
        go_wp2_with (first | (go_at_call 101; refine (cmpstr_any _ _ _).mono ?_; rintro e w' ⟨rfl, rfl⟩) | go_in)
        go_ret
        exact ⟨rfl, (((Grew.refl w).alloc _).alloc _).alloc _⟩
      · have d2 := beq_int_ne h2
        by_cases h3 : ak = 3
        · subst h3
          have e : cmpV ⟨3, an, sa, ab⟩ ⟨3, bn, sb, bb⟩ = cmpB ab bb := rfl
          rw [e]
          have t1 := ta42
          have t2 := ta49
          have t3 := ta44
          clear e d1 h1 d2 h2
          cases ab <;> cases bb
          all_goals
            go_enter Tryz.func83, Tryz.ntmps83
            go_upto_region 12 with go_in
            go_quiet (first | (go_at_call 133; exact Calls.quiet_of_same (rank_any _ _)) | (go_at_call 102; exact Calls.quiet_of_same (cmpint_back _ _ _)))
            go_wp2
            go_ret
            exact ⟨rfl, ((((Grew.refl w).alloc _).alloc _).alloc _).drewN _⟩
        · have d3 := beq_int_ne h3
          have e : cmpV ⟨ak, an, sa, ab⟩ ⟨ak, bn, sb, bb⟩ = 0 := by unfold cmpV; rw [if_pos rfl, if_neg h1, if_neg h2, if_neg h3]
          rw [e]
          have t1 := ta02
          have t2 := ta09
          have t3 := ta04
          clear e h1 h2 h3
          go_enter Tryz.func83, Tryz.ntmps83
          go_wp2_with go_in
          go_ret
          exact ⟨rfl, (((Grew.refl w).alloc _).alloc _).alloc _⟩
  · have e : cmpV ⟨ak, an, sa, ab⟩ ⟨bk, bn, sb, bb⟩ = Lib.compareInt ak bk := by unfold cmpV; rw [if_neg hk]
    rw [e]
    have d1 := beq_int_ne hk
    clear e hk
    go_enter Tryz.func83, Tryz.ntmps83
    go_wp2_with (first | (go_at_call 102; refine (cmpint_any _ _ _).mono ?_; rintro e w' ⟨rfl, rfl⟩) | go_in)
    go_ret
    exact ⟨rfl, ((Grew.refl w).alloc _).alloc _⟩

end Go.Proofs.YtabegbelkfhbcaaGreat

namespace Go.Proofs.YtabegbelkfhbcaaGreat

/-- A place between values. -/
structure Cut where
  a : List UInt8
  e : Bool
deriving DecidableEq
def Cut.lt (x y : Cut) : Bool := !x.e && (y.e || Op.bytesLess x.a y.a)
structure Sp where
  lo : Cut
  hi : Cut
deriving DecidableEq
structure Rg where
  i : List Sp
  s : List Sp
  b : List Sp
  odd : Bool
deriving DecidableEq

def eightN : Nat → Nat → List UInt8
  | 0, _ => []
  | k + 1, n => eightN k (n / 256) ++ [UInt8.ofNat (n % 256)]
def eightF (n : Nat) : List UInt8 := eightN 8 n
theorem eightN_len : ∀ k n, (eightN k n).length = k
  | 0, _ => rfl
  | k + 1, n => by simp [eightN, eightN_len k]
/-- Bytes as a number, the highest first. -/
def wholeF (l : List UInt8) : Nat := l.foldl (fun n c => n * 256 + c.toNat) 0
theorem wholeF_snoc (l : List UInt8) (c : UInt8) : wholeF (l ++ [c]) = wholeF l * 256 + c.toNat := by simp [wholeF]
theorem wholeF_eight : ∀ (k n : Nat), n < 256 ^ k → wholeF (eightN k n) = n
  | 0, n, h => by simp at h; subst h; rfl
  | k + 1, n, h => by
    rw [eightN, wholeF_snoc, wholeF_eight k (n / 256) (by rw [Nat.pow_succ] at h; omega)]
    have : (UInt8.ofNat (n % 256)).toNat = n % 256 := by
      rw [UInt8.toNat_ofNat']; omega
    omega
theorem eight_wholeF : ∀ (k : Nat) (l : List UInt8), l.length = k → eightN k (wholeF l) = l
  | 0, l, h => by rw [List.length_eq_zero_iff.1 h]; rfl
  | k + 1, l, h => by
    have hne : l ≠ [] := by intro e; rw [e] at h; simp at h
    obtain ⟨p, c, rfl⟩ : ∃ p c, l = p ++ [c] := ⟨l.dropLast, l.getLast hne, (List.dropLast_concat_getLast hne).symm⟩
    have hp : p.length = k := by simpa using h
    have hc : c.toNat < 256 := c.toNat_lt
    rw [wholeF_snoc, eightN]
    have e1 : (wholeF p * 256 + c.toNat) / 256 = wholeF p := by omega
    have e2 : (wholeF p * 256 + c.toNat) % 256 = c.toNat := by omega
    rw [e1, e2, eight_wholeF k p hp]
    congr 2
    exact UInt8.toNat_inj.1 (by rw [UInt8.toNat_ofNat']; omega)
theorem wholeF_lt : ∀ (k : Nat) (l : List UInt8), l.length = k → wholeF l < 256 ^ k
  | 0, l, h => by rw [List.length_eq_zero_iff.1 h]; decide
  | k + 1, l, h => by
    have hne : l ≠ [] := by intro e; rw [e] at h; simp at h
    obtain ⟨p, c, rfl⟩ : ∃ p c, l = p ++ [c] := ⟨l.dropLast, l.getLast hne, (List.dropLast_concat_getLast hne).symm⟩
    have hp : p.length = k := by simpa using h
    have hc : c.toNat < 256 := c.toNat_lt
    have := wholeF_lt k p hp
    rw [wholeF_snoc, Nat.pow_succ]; omega

def numC (n : Int) : Cut := ⟨eightF (n + 9223372036854775808).toNat, false⟩
def endC : Cut := ⟨[], true⟩
def firstC (k : Int) : Cut := if k = 1 then numC (-9223372036854775808) else ⟨[], false⟩
def aroundV (v : V) : Cut × Cut :=
  if v.k = 1 then (if v.n = 9223372036854775807 then (numC v.n, endC) else (numC v.n, numC (v.n + 1)))
  else if v.k = 2 then (⟨v.s, false⟩, ⟨v.s ++ [0], false⟩)
  else if v.b then (⟨[0], false⟩, endC) else (⟨[], false⟩, ⟨[0], false⟩)
def atV (v : V) : Cut := (aroundV v).1
def pastR : List UInt8 → Cut
  | [] => endC
  | c :: r => if c = 255 then pastR r else ⟨(r.reverse) ++ [c + 1], false⟩
def pastF (s : List UInt8) : Cut := pastR s.reverse
def fullS (l : List Sp) : List Sp := l.filter fun x => Cut.lt x.lo x.hi
def ofL (c : C) : List Sp :=
  fullS (if c.op = 2 then [⟨(aroundV c.v).1, (aroundV c.v).2⟩]
  else if c.op = 3 then [⟨firstC c.v.k, (aroundV c.v).1⟩, ⟨(aroundV c.v).2, endC⟩]
  else if c.op = 4 then [⟨firstC c.v.k, (aroundV c.v).1⟩]
  else if c.op = 5 then [⟨firstC c.v.k, (aroundV c.v).2⟩]
  else if c.op = 6 then [⟨(aroundV c.v).2, endC⟩]
  else if c.op = 7 then [⟨(aroundV c.v).1, endC⟩]
  else if c.op = 8 then [⟨(aroundV c.v).1, pastF c.v.s⟩]
  else [])
def allR : Rg := ⟨[⟨firstC 1, endC⟩], [⟨firstC 2, endC⟩], [⟨firstC 3, endC⟩], true⟩
def noneR : Rg := ⟨[], [], [], false⟩
def minus1 (s out : Sp) : List Sp :=
  if !Cut.lt out.lo s.hi || !Cut.lt s.lo out.hi then [s]
  else fullS [⟨s.lo, if Cut.lt out.lo s.hi then out.lo else s.hi⟩, ⟨if Cut.lt s.lo out.hi then out.hi else s.lo, s.hi⟩]
def minusL (l m : List Sp) : List Sp := m.foldl (fun l out => l.flatMap fun s => minus1 s out) l
def Rg.minus (r q : Rg) : Rg := ⟨minusL r.i q.i, minusL r.s q.s, minusL r.b q.b, r.odd && !q.odd⟩
def Rg.and (r q : Rg) : Rg := r.minus (r.minus q)
def Rg.empty (r : Rg) : Bool := !r.odd && !(decide (0 < r.i.length) || decide (0 < r.s.length) || decide (0 < r.b.length))
def Rg.within (r q : Rg) : Bool := (r.minus q).empty
def inS (c : Cut) (x : Sp) : Bool := !Cut.lt c x.lo && Cut.lt c x.hi
def inL (c : Cut) (l : List Sp) : Bool := l.any (inS c)
def Rg.of (r : Rg) (k : Int) : List Sp := if k = 1 then r.i else if k = 2 then r.s else r.b
def Rg.has (r : Rg) (v : V) : Bool := if v.k < 1 ∨ 3 < v.k then r.odd else inL (atV v) (r.of v.k)
def setR (k : Int) (l : List Sp) : Rg := if k = 1 then ⟨l, [], [], false⟩ else if k = 2 then ⟨[], l, [], false⟩ else ⟨[], [], l, false⟩
def oneV (v : V) : Rg := setR v.k (ofL ⟨[], 2, v, []⟩)
def ofR (c : C) : Rg :=
  if !mayC c then noneR else if c.op = 1 then allR else if c.op = 9 then allR.minus (c.set.foldl (fun r v => r.minus (oneV v)) allR) else setR c.v.k (ofL c)
def askedF (p : List C) (name : List UInt8) : Rg := if !mayP p then noneR else p.foldl (fun r c => if c.name = name then r.and (ofR c) else r) allR
def someR (r : Rg) : V × Bool :=
  match r.i with
  | x :: _ => (⟨1, (wholeF x.lo.a : Int) - 9223372036854775808, [], false⟩, true)
  | [] => match r.s with
    | x :: _ => (⟨2, 0, x.lo.a, false⟩, true)
    | [] => match r.b with
      | x :: _ => (⟨3, 0, [], !x.lo.a.isEmpty⟩, true)
      | [] => (⟨0, 0, [], false⟩, r.odd)
def namesF (p : List C) : List (List UInt8) := sortU Lib.compareBytes (p.map C.name)
def noneF (p : List C) : Bool := (namesF p).any fun n => (askedF p n).empty
def coversF (p q : List C) : Bool := mayP p && mayP q && (noneF q || !(namesF p).any fun n => !decide (n ∈ namesF q) || !(askedF q n).within (askedF p n))

/-! The order of cuts -/
theorem bl_lt (x y : List UInt8) : Op.bytesLess x y = true ↔ Lib.compareBytes x y < 0 := by
  induction x generalizing y with
  | nil => cases y <;> simp [Op.bytesLess, Lib.compareBytes]
  | cons a x ih =>
    cases y with
    | nil => simp [Op.bytesLess, Lib.compareBytes]
    | cons b y =>
      simp only [Op.bytesLess, Lib.compareBytes]
      by_cases h1 : a < b
      · simp [h1]
      · by_cases h2 : b < a
        · have hne : ¬ a = b := by intro e; rw [e] at h2; exact absurd h2 (UInt8.lt_irrefl b)
          simp [h1, h2, hne]
        · have he : a = b := UInt8.le_antisymm (UInt8.not_lt.1 h2) (UInt8.not_lt.1 h1)
          subst he
          simp [ih y]
theorem cut_irr (x : Cut) : Cut.lt x x = false := by
  unfold Cut.lt
  cases hx : x.e <;> simp
  have := bl_lt x.a x.a
  rw [wo_bytes.refl] at this
  simp at this; exact this
theorem cut_trans {x y z : Cut} (h1 : Cut.lt x y = true) (h2 : Cut.lt y z = true) : Cut.lt x z = true := by
  unfold Cut.lt at *
  simp only [Bool.and_eq_true, Bool.not_eq_true', Bool.or_eq_true] at *
  refine ⟨h1.1, ?_⟩
  rcases h2.2 with h | h
  · exact .inl h
  · rcases h1.2 with h' | h'
    · rw [h2.1] at h'; cases h'
    · exact .inr ((bl_lt _ _).2 (wo_bytes.lt_trans ((bl_lt _ _).1 h') ((bl_lt _ _).1 h)))
/-- Of 'not ahead' likewise. -/
theorem cut_ntrans {x y z : Cut} (h1 : Cut.lt x y = false) (h2 : Cut.lt y z = false) : Cut.lt x z = false := by
  cases h : Cut.lt x z with
  | false => rfl
  | true =>
    exfalso
    unfold Cut.lt at h h1 h2
    simp only [Bool.and_eq_true, Bool.not_eq_true', Bool.or_eq_true, Bool.and_eq_false_iff, Bool.or_eq_false_iff, Bool.not_eq_false'] at h h1 h2
    rcases h1 with h1 | h1
    · rw [h.1] at h1; cases h1
    · rcases h2 with h2 | h2
      · rw [h1.1] at h2; cases h2
      · rcases h.2 with h3 | h3
        · rw [h2.1] at h3; cases h3
        · have a1 := (bl_lt _ _).1 h3
          have a2 : ¬ Lib.compareBytes x.a y.a < 0 := fun e => by rw [(bl_lt _ _).2 e] at h1; simp at h1
          have a3 : ¬ Lib.compareBytes y.a z.a < 0 := fun e => by rw [(bl_lt _ _).2 e] at h2; simp at h2
          have b1 := wo_bytes.anti x.a y.a
          have b2 := wo_bytes.anti y.a z.a
          have b3 := wo_bytes.anti x.a z.a
          have := wo_bytes.trans z.a y.a x.a (by omega) (by omega)
          omega

/-! What is in spans -/
theorem inL_append (c : Cut) (l m : List Sp) : inL c (l ++ m) = (inL c l || inL c m) := by simp [inL]
theorem inL_full (c : Cut) (l : List Sp) : inL c (fullS l) = inL c l := by
  unfold inL fullS
  rw [Bool.eq_iff_iff, List.any_eq_true, List.any_eq_true]
  constructor
  · rintro ⟨x, hx, h⟩
    exact ⟨x, (List.mem_filter.1 hx).1, h⟩
  · rintro ⟨x, hx, h⟩
    refine ⟨x, List.mem_filter.2 ⟨hx, ?_⟩, h⟩
    unfold inS at h
    simp only [Bool.and_eq_true, Bool.not_eq_true'] at h
    cases hl : Cut.lt x.lo x.hi with
    | true => rfl
    | false =>
      have := cut_ntrans h.1 hl
      rw [h.2] at this; cases this
theorem in_minus1 (c : Cut) (s out : Sp) : inL c (minus1 s out) = (inS c s && !inS c out) := by
  have t1 : ∀ {x y z : Cut}, Cut.lt x y = false → Cut.lt x z = true → Cut.lt y z = true := fun {x y z} h1 h2 => by
    cases h : Cut.lt y z with
    | true => rfl
    | false => have := cut_ntrans h1 h; rw [h2] at this; cases this
  unfold minus1
  by_cases hd : (!Cut.lt out.lo s.hi || !Cut.lt s.lo out.hi) = true
  · rw [if_pos hd]
    simp only [inL, List.any_cons, List.any_nil, Bool.or_false]
    cases hs : inS c s with
    | false => rfl
    | true =>
      cases ho : inS c out with
      | false => rfl
      | true =>
        exfalso
        unfold inS at hs ho
        simp only [Bool.and_eq_true, Bool.not_eq_true', Bool.or_eq_true] at hs ho hd
        rcases hd with hd | hd
        · rw [t1 ho.1 hs.2] at hd; cases hd
        · rw [t1 hs.1 ho.2] at hd; cases hd
  · rw [if_neg hd, inL_full]
    simp only [Bool.not_eq_true, Bool.or_eq_false_iff, Bool.not_eq_false'] at hd
    rw [if_pos hd.1, if_pos hd.2]
    simp only [inL, List.any_cons, List.any_nil, Bool.or_false, inS]
    cases h1 : Cut.lt c s.lo <;> cases h2 : Cut.lt c s.hi <;> cases h3 : Cut.lt c out.lo <;> cases h4 : Cut.lt c out.hi <;> simp
    · rw [cut_trans h3 hd.1] at h2; cases h2
    · rw [cut_trans h3 hd.1] at h2; cases h2
    · rw [cut_trans h1 hd.2] at h4; cases h4
    · rw [cut_trans h1 hd.2] at h4; cases h4
theorem in_flat (c : Cut) (out : Sp) (l : List Sp) : inL c (l.flatMap fun s => minus1 s out) = (inL c l && !inS c out) := by
  induction l with
  | nil => simp [inL]
  | cons s l ih =>
    rw [List.flatMap_cons, inL_append, in_minus1, ih]
    have : inL c (s :: l) = (inS c s || inL c l) := by simp [inL]
    rw [this]
    cases inS c s <;> cases inL c l <;> cases inS c out <;> rfl
theorem in_minus (c : Cut) (l m : List Sp) : inL c (minusL l m) = (inL c l && !inL c m) := by
  unfold minusL
  induction m generalizing l with
  | nil => simp [inL]
  | cons o m ih =>
    rw [List.foldl_cons, ih, in_flat]
    have : inL c (o :: m) = (inS c o || inL c m) := by simp [inL]
    rw [this]
    cases inL c l <;> cases inL c m <;> cases inS c o <;> rfl
theorem has_minus (r q : Rg) (v : V) : (r.minus q).has v = (r.has v && !q.has v) := by
  unfold Rg.has
  split
  · rfl
  · have : (r.minus q).of v.k = minusL (r.of v.k) (q.of v.k) := by
      unfold Rg.of Rg.minus
      (repeat' split) <;> rfl
    rw [this, in_minus]
theorem has_and (r q : Rg) (v : V) : (r.and q).has v = (r.has v && q.has v) := by
  unfold Rg.and
  rw [has_minus, has_minus]
  cases r.has v <;> cases q.has v <;> rfl

/-! Regions whose cuts stand for values -/
def ok1 (c : Cut) : Prop := c.e = true ∨ c.a.length = 8
def ok3 (c : Cut) : Prop := c.e = true ∨ c.a = [] ∨ c.a = [0]
def okS (P : Cut → Prop) (l : List Sp) : Prop := ∀ x ∈ l, P x.lo ∧ P x.hi ∧ Cut.lt x.lo x.hi = true
structure Good4 (r : Rg) : Prop where
  i : okS ok1 r.i
  s : okS (fun _ => True) r.s
  b : okS ok3 r.b
theorem okS_minus1 {P : Cut → Prop} {s out : Sp} (h : P s.lo ∧ P s.hi ∧ Cut.lt s.lo s.hi = true) (ho : P out.lo ∧ P out.hi) : okS P (minus1 s out) := by
  intro x hx
  unfold minus1 at hx
  split at hx
  · rw [List.mem_singleton.1 hx]; exact h
  · have hx' := List.mem_filter.1 hx
    rcases List.mem_cons.1 hx'.1 with e | hx2
    · subst e
      refine ⟨h.1, ?_, hx'.2⟩
      show P (if _ then _ else _)
      split
      · exact ho.1
      · exact h.2.1
    · have e := List.mem_singleton.1 hx2
      subst e
      refine ⟨?_, h.2.1, hx'.2⟩
      show P (if _ then _ else _)
      split
      · exact ho.2
      · exact h.1
theorem okS_minus {P : Cut → Prop} : ∀ {m l : List Sp}, okS P l → okS P m → okS P (minusL l m)
  | [], _, h, _ => h
  | o :: m, l, h, hm => by
    have h2 : okS P (l.flatMap fun s => minus1 s o) := fun x hx => by
      obtain ⟨s, hs, hx⟩ := List.mem_flatMap.1 hx
      exact okS_minus1 (h s hs) ⟨(hm o List.mem_cons_self).1, (hm o List.mem_cons_self).2.1⟩ x hx
    exact okS_minus (m := m) h2 fun x hx => hm x (List.mem_cons_of_mem _ hx)
theorem Good4.minus {r q : Rg} (h : Good4 r) (k : Good4 q) : Good4 (r.minus q) := ⟨okS_minus h.i k.i, okS_minus h.s k.s, okS_minus h.b k.b⟩
theorem Good4.and {r q : Rg} (h : Good4 r) (k : Good4 q) : Good4 (r.and q) := h.minus (h.minus k)
theorem good_none : Good4 noneR := ⟨fun _ h => (by cases h), fun _ h => (by cases h), fun _ h => (by cases h)⟩
theorem num_ok1 (n : Int) : ok1 (numC n) := .inr (eightN_len 8 _)
theorem good_all : Good4 allR := by
  refine ⟨fun x hx => ?_, fun x hx => ?_, fun x hx => ?_⟩ <;> rw [List.mem_singleton.1 hx]
  · exact ⟨num_ok1 _, .inl rfl, rfl⟩
  · exact ⟨trivial, trivial, rfl⟩
  · exact ⟨.inr (.inl rfl), .inl rfl, rfl⟩

theorem at_num {l : List UInt8} (h : l.length = 8) : eightF ((wholeF l : Int) - 9223372036854775808 + 9223372036854775808).toNat = l := by
  have e : ((wholeF l : Int) - 9223372036854775808 + 9223372036854775808).toNat = wholeF l := by omega
  rw [e]; exact eight_wholeF 8 l h
theorem inS_lo {x : Sp} (h : Cut.lt x.lo x.hi = true) : inS x.lo x = true := by
  unfold inS; rw [cut_irr, h]; rfl
theorem lt_live {x y : Cut} (h : Cut.lt x y = true) : x.e = false := by
  unfold Cut.lt at h; simp only [Bool.and_eq_true, Bool.not_eq_true'] at h; exact h.1
/-- A region that is not empty shows a value that is in it. -/
theorem some_law {r : Rg} (h : Good4 r) : (someR r).2 = !r.empty ∧ ((someR r).2 = true → r.has (someR r).1 = true) := by
  obtain ⟨ri, rs, rb, ro⟩ := r
  unfold someR Rg.empty
  cases ri with
  | cons x ri =>
    refine ⟨by simp, fun _ => ?_⟩
    obtain ⟨h1, h2, h3⟩ := h.i x List.mem_cons_self
    have he := lt_live h3
    have hl : x.lo.a.length = 8 := by rcases h1 with h1 | h1; rw [he] at h1; cases h1; exact h1
    have hat : atV ⟨1, (wholeF x.lo.a : Int) - 9223372036854775808, [], false⟩ = x.lo := by
      have hnum : numC ((wholeF x.lo.a : Int) - 9223372036854775808) = x.lo := by
        unfold numC
        rw [at_num hl]
        cases hx : x.lo with | mk a e => rw [hx] at he; simp only at he; rw [he]
      unfold atV aroundV
      rw [if_pos rfl]
      split <;> exact hnum
    show inL _ _ = true
    rw [hat]
    show (inS x.lo x || _) = true
    rw [inS_lo h3, Bool.true_or]
  | nil =>
    cases rs with
    | cons x rs =>
      refine ⟨by simp, fun _ => ?_⟩
      obtain ⟨_, _, h3⟩ := h.s x List.mem_cons_self
      have he := lt_live h3
      have hat : atV ⟨2, 0, x.lo.a, false⟩ = x.lo := by
        show (⟨x.lo.a, false⟩ : Cut) = x.lo
        cases hx : x.lo with | mk a e => rw [hx] at he; simp only at he; rw [he]
      show inL _ _ = true
      rw [hat]
      show (inS x.lo x || _) = true
      rw [inS_lo h3, Bool.true_or]
    | nil =>
      cases rb with
      | cons x rb =>
        refine ⟨by simp, fun _ => ?_⟩
        obtain ⟨h1, _, h3⟩ := h.b x List.mem_cons_self
        have he := lt_live h3
        have hat : atV ⟨3, 0, [], !x.lo.a.isEmpty⟩ = x.lo := by
          cases hx : x.lo with
          | mk a e =>
            rw [hx] at he h1
            simp only at he
            subst he
            rcases h1 with h1 | h1 | h1
            · cases h1
            · simp only at h1; subst h1; rfl
            · simp only at h1; subst h1; rfl
        show inL _ _ = true
        rw [hat]
        show (inS x.lo x || _) = true
        rw [inS_lo h3, Bool.true_or]
      | nil =>
        refine ⟨by simp, fun ho => ?_⟩
        show ro = true
        exact ho
theorem empty_iff {r : Rg} (h : Good4 r) : r.empty = true ↔ ∀ v, r.has v = false := by
  obtain ⟨h1, h2⟩ := some_law h
  constructor
  · intro he v
    obtain ⟨ri, rs, rb, ro⟩ := r
    unfold Rg.empty at he
    simp only [Bool.and_eq_true, Bool.not_eq_true', Bool.or_eq_false_iff, decide_eq_false_iff_not] at he
    have e1 : ri = [] := List.eq_nil_of_length_eq_zero (by omega)
    have e2 : rs = [] := List.eq_nil_of_length_eq_zero (by omega)
    have e3 : rb = [] := List.eq_nil_of_length_eq_zero (by omega)
    obtain ⟨he1, _⟩ := he
    subst e1; subst e2; subst e3; subst he1
    unfold Rg.has Rg.of inL
    (repeat' split) <;> rfl
  · intro hv
    cases he : r.empty with
    | true => rfl
    | false =>
      rw [he] at h1
      have := h2 h1
      rw [hv] at this; cases this
theorem within_iff {r q : Rg} (h : Good4 r) (k : Good4 q) : r.within q = true ↔ ∀ v, r.has v = true → q.has v = true := by
  unfold Rg.within
  rw [empty_iff (h.minus k)]
  constructor
  · intro a v hv
    have := a v
    rw [has_minus, hv] at this
    simpa using this
  · intro a v
    rw [has_minus]
    cases hv : r.has v with
    | false => rfl
    | true => rw [a v hv]; rfl

/-! The regions of constraints -/
theorem okS_full {P : Cut → Prop} {l : List Sp} (h : ∀ x ∈ l, P x.lo ∧ P x.hi) : okS P (fullS l) := fun x hx => by
  obtain ⟨h1, h2⟩ := List.mem_filter.1 hx
  exact ⟨(h x h1).1, (h x h1).2, h2⟩
theorem around_ok1 {v : V} (h : v.k = 1) : ok1 (aroundV v).1 ∧ ok1 (aroundV v).2 := by
  unfold aroundV
  rw [if_pos h]
  split
  · exact ⟨num_ok1 _, .inl rfl⟩
  · exact ⟨num_ok1 _, num_ok1 _⟩
theorem around_ok3 {v : V} (h1 : v.k ≠ 1) (h2 : v.k ≠ 2) : ok3 (aroundV v).1 ∧ ok3 (aroundV v).2 := by
  unfold aroundV
  rw [if_neg h1, if_neg h2]
  split
  · exact ⟨.inr (.inr rfl), .inl rfl⟩
  · exact ⟨.inr (.inl rfl), .inr (.inr rfl)⟩
theorem ofL_ok {P : Cut → Prop} {c : C} (ha : P (aroundV c.v).1 ∧ P (aroundV c.v).2) (hf : P (firstC c.v.k)) (he : P endC) (hp : c.op = 8 → P (pastF c.v.s)) : okS P (ofL c) := by
  refine okS_full fun x hx => ?_
  split at hx
  · rw [List.mem_singleton.1 hx]; exact ha
  · split at hx
    · rcases List.mem_cons.1 hx with e | hx
      · rw [e]; exact ⟨hf, ha.1⟩
      · rw [List.mem_singleton.1 hx]; exact ⟨ha.2, he⟩
    · split at hx
      · rw [List.mem_singleton.1 hx]; exact ⟨hf, ha.1⟩
      · split at hx
        · rw [List.mem_singleton.1 hx]; exact ⟨hf, ha.2⟩
        · split at hx
          · rw [List.mem_singleton.1 hx]; exact ⟨ha.2, he⟩
          · split at hx
            · rw [List.mem_singleton.1 hx]; exact ⟨ha.1, he⟩
            · split at hx
              · rename_i h8
                rw [List.mem_singleton.1 hx]; exact ⟨ha.1, hp h8⟩
              · cases hx
theorem good_set {k : Int} {c : C} (hk : c.v.k = k) (h8 : c.op = 8 → k = 2) : Good4 (setR k (ofL c)) := by
  subst hk
  unfold setR
  split
  · rename_i h1
    exact ⟨ofL_ok (around_ok1 h1) (by rw [h1]; exact num_ok1 _) (.inl rfl) (fun e => by have := h8 e; omega), fun _ h => (by cases h), fun _ h => (by cases h)⟩
  · rename_i h1
    split
    · exact ⟨fun _ h => (by cases h), ofL_ok ⟨trivial, trivial⟩ trivial trivial (fun _ => trivial), fun _ h => (by cases h)⟩
    · rename_i h2
      refine ⟨fun _ h => (by cases h), fun _ h => (by cases h), ofL_ok (around_ok3 h1 h2) ?_ (.inl rfl) (fun e => absurd (h8 e) h2)⟩
      unfold firstC; rw [if_neg h1]; exact .inr (.inl rfl)
theorem good_one (v : V) : Good4 (oneV v) := good_set rfl (fun e => by cases e)
theorem good_fold (l : List V) (r : Rg) (h : Good4 r) : Good4 (l.foldl (fun r v => r.minus (oneV v)) r) := by
  induction l generalizing r with
  | nil => exact h
  | cons v l ih => exact ih _ (h.minus (good_one v))
theorem good_of (c : C) : Good4 (ofR c) := by
  unfold ofR
  split
  · exact good_none
  · rename_i hm
    split
    · exact good_all
    · split
      · exact good_all.minus (good_fold _ _ good_all)
      · refine good_set rfl fun h8 => ?_
        simp only [Bool.not_eq_true', Bool.not_eq_false] at hm
        unfold mayC at hm
        by_cases h0 : c.name.length < 1 ∨ 16 < c.name.length
        · rw [if_pos h0] at hm; cases hm
        · rw [if_neg h0, if_neg (show ¬ c.op = 1 by omega), if_neg (show ¬ (2 ≤ c.op ∧ c.op ≤ 7) by omega), if_pos h8] at hm
          simp only [Bool.and_eq_true, decide_eq_true_eq] at hm
          exact hm.1.2
theorem good_asked (p : List C) (name : List UInt8) : Good4 (askedF p name) := by
  unfold askedF
  split
  · exact good_none
  · have : ∀ (l : List C) (r : Rg), Good4 r → Good4 (l.foldl (fun r c => if c.name = name then r.and (ofR c) else r) r) := fun l => by
      induction l with
      | nil => intro r h; exact h
      | cons c l ih =>
        intro r h
        rw [List.foldl_cons]
        refine ih _ ?_
        split
        · exact h.and (good_of c)
        · exact h
    exact this p _ good_all

theorem bl_zero8 (l : List UInt8) : ∀ k, Op.bytesLess l (List.replicate k 0) = true → l.length < k := by
  induction l with
  | nil => intro k h; cases k with | zero => simp [Op.bytesLess] at h | succ k => simp
  | cons a l ih =>
    intro k h
    cases k with
    | zero => simp [Op.bytesLess] at h
    | succ k =>
      simp only [List.replicate_succ, Op.bytesLess, Bool.or_eq_true, decide_eq_true_eq, Bool.and_eq_true] at h
      rcases h with h | h
      · exact absurd h (UInt8.not_lt_zero)
      · have := ih k h.2; simp; omega
theorem all_has (v : V) : allR.has v = true := by
  unfold Rg.has
  split
  · rfl
  · rename_i hk
    have hlive : (atV v).e = false := by
      unfold atV aroundV numC
      (repeat' split) <;> rfl
    have hlt : Cut.lt (atV v) endC = true := by unfold Cut.lt; rw [hlive]; rfl
    have key : ∀ k, k = v.k → Cut.lt (atV v) (firstC k) = false := fun k hkv => by
      subst hkv
      by_cases h1 : v.k = 1
      · have hl : (atV v).a.length = 8 := by
          have := (around_ok1 h1).1
          rcases this with h | h
          · unfold atV at hlive; rw [hlive] at h; cases h
          · exact h
        unfold firstC Cut.lt
        rw [if_pos h1]
        have e0 : (numC (-9223372036854775808)).a = List.replicate 8 0 := by rfl
        have e1 : (numC (-9223372036854775808)).e = false := rfl
        rw [hlive, e1, e0]
        cases hb : Op.bytesLess (atV v).a (List.replicate 8 0) with
        | false => rfl
        | true => have := bl_zero8 _ _ hb; omega
      · unfold firstC Cut.lt
        rw [if_neg h1, hlive]
        cases (atV v).a <;> rfl
    have fin : ∀ k, k = v.k → inL (atV v) [⟨firstC k, endC⟩] = true := fun k hkv => by
      show (inS _ _ || false) = true
      unfold inS
      rw [key k hkv, hlt]; rfl
    unfold Rg.of
    split
    · rename_i h1; exact fin 1 h1.symm
    · split
      · rename_i h2; exact fin 2 h2.symm
      · exact fin 3 (by omega)
theorem none_has (v : V) : noneR.has v = false := by
  unfold Rg.has Rg.of inL noneR
  (repeat' split) <;> rfl
theorem and_self (r q : Rg) : (r.and q).has = fun v => r.has v && q.has v := by funext v; exact has_and r q v

/-- What a predicate that may be asks of a name. -/
theorem asked_has {p : List C} (hp : mayP p = true) (name : List UInt8) (v : V) : (askedF p name).has v = p.all fun c => !decide (c.name = name) || (ofR c).has v := by
  unfold askedF
  rw [hp]
  have : ∀ (l : List C) (r : Rg), (l.foldl (fun r c => if c.name = name then r.and (ofR c) else r) r).has v = (r.has v && l.all fun c => !decide (c.name = name) || (ofR c).has v) := fun l => by
    induction l with
    | nil => intro r; simp
    | cons c l ih =>
      intro r
      rw [List.foldl_cons, ih, List.all_cons]
      by_cases hn : c.name = name
      · rw [if_pos hn, has_and, decide_eq_true hn, Bool.and_assoc]; rfl
      · rw [if_neg hn, decide_eq_false hn]; rfl
  show (p.foldl _ allR).has v = _
  rw [this, all_has, Bool.true_and]

/-! Covering -/
theorem names_mem (p : List C) (n : List UInt8) : n ∈ namesF p ↔ ∃ c ∈ p, c.name = n := by
  unfold namesF
  rw [sortU_mem _ (fun _ _ _ _ => bytes_zero), List.mem_map]
theorem asked_free {p : List C} (hp : mayP p = true) {n : List UInt8} (hn : n ∉ namesF p) (v : V) : (askedF p n).has v = true := by
  rw [asked_has hp, List.all_eq_true]
  intro c hc
  have : ¬ c.name = n := fun e => hn ((names_mem p n).2 ⟨c, hc, e⟩)
  rw [decide_eq_false this]; rfl
theorem none_iff {p : List C} : noneF p = true ↔ ∃ n ∈ namesF p, ∀ v, (askedF p n).has v = false := by
  unfold noneF
  rw [List.any_eq_true]
  exact ⟨fun ⟨n, h1, h2⟩ => ⟨n, h1, (empty_iff (good_asked p n)).1 h2⟩, fun ⟨n, h1, h2⟩ => ⟨n, h1, (empty_iff (good_asked p n)).2 h2⟩⟩
theorem covers_iff (p q : List C) : coversF p q = true ↔ mayP p = true ∧ mayP q = true ∧ (noneF q = true ∨ ∀ n ∈ namesF p, n ∈ namesF q ∧ ∀ v, (askedF q n).has v = true → (askedF p n).has v = true) := by
  unfold coversF
  simp only [Bool.and_eq_true, Bool.or_eq_true, Bool.not_eq_true', and_assoc]
  refine and_congr_right fun _ => and_congr_right fun _ => or_congr_right ?_
  rw [List.any_eq_false]
  refine forall_congr' fun n => imp_congr_right fun _ => ?_
  rw [← within_iff (good_asked q n) (good_asked p n)]
  simp only [Bool.or_eq_true, Bool.not_eq_true', decide_eq_false_iff_not, not_or, Classical.not_not, Bool.not_eq_false]
theorem covers_refl {p : List C} (h : mayP p = true) : coversF p p = true :=
  (covers_iff p p).2 ⟨h, h, .inr fun _ hn => ⟨hn, fun _ hv => hv⟩⟩
theorem covers_trans {p q r : List C} (h1 : coversF p q = true) (h2 : coversF q r = true) : coversF p r = true := by
  obtain ⟨a1, a2, a3⟩ := (covers_iff p q).1 h1
  obtain ⟨_, b2, b3⟩ := (covers_iff q r).1 h2
  refine (covers_iff p r).2 ⟨a1, b2, ?_⟩
  rcases b3 with b3 | b3
  · exact .inl b3
  · rcases a3 with a3 | a3
    · left
      obtain ⟨n, hn, hv⟩ := none_iff.1 a3
      refine none_iff.2 ⟨n, (b3 n hn).1, fun v => ?_⟩
      cases h : (askedF r n).has v with
      | false => rfl
      | true => have := (b3 n hn).2 v h; rw [hv] at this; cases this
    · right
      intro n hn
      exact ⟨(b3 n (a3 n hn).1).1, fun v hv => (a3 n hn).2 v ((b3 n (a3 n hn).1).2 v hv)⟩
/-- Fewer constraints cover more. -/
theorem covers_sub {p q : List C} (hp : mayP p = true) (hq : mayP q = true) (h : ∀ c ∈ p, c ∈ q) : coversF p q = true := by
  refine (covers_iff p q).2 ⟨hp, hq, .inr fun n hn => ?_⟩
  obtain ⟨c, hc, e⟩ := (names_mem p n).1 hn
  refine ⟨(names_mem q n).2 ⟨c, h c hc, e⟩, fun v hv => ?_⟩
  rw [asked_has hp, List.all_eq_true]
  rw [asked_has hq, List.all_eq_true] at hv
  exact fun c hc => hv c (h c hc)

end Go.Proofs.YtabegbelkfhbcaaGreat

namespace Go.Proofs.YtabegbelkfhbcaaGreat
open Go.RowKit

theorem bytes_vals : ∀ a b : List UInt8, Lib.compareBytes a b = -1 ∨ Lib.compareBytes a b = 0 ∨ Lib.compareBytes a b = 1
  | [], [] => .inr (.inl rfl)
  | [], _ :: _ => .inl rfl
  | _ :: _, [] => .inr (.inr rfl)
  | a :: x, b :: y => by
    simp only [Lib.compareBytes]
    split
    · exact .inl rfl
    · split
      · exact .inr (.inr rfl)
      · exact bytes_vals x y
theorem bytes_cases (a b : List UInt8) : (Lib.compareBytes a b = -1 ∧ Op.bytesLess a b = true ∧ (a == b) = false) ∨ (a = b ∧ Lib.compareBytes a b = 0 ∧ Op.bytesLess a b = false) ∨ (Lib.compareBytes a b = 1 ∧ Op.bytesLess a b = false ∧ (a == b) = false) := by
  have hne : Lib.compareBytes a b ≠ 0 → (a == b) = false := fun h => beq_eq_false_iff_ne.2 (fun e => h (by rw [e]; exact wo_bytes.refl b))
  have hlt : ¬ Lib.compareBytes a b < 0 → Op.bytesLess a b = false := fun h => by
    cases hb : Op.bytesLess a b with
    | false => rfl
    | true => exact absurd ((bl_lt a b).1 hb) h
  rcases bytes_vals a b with h | h | h
  · exact .inl ⟨h, (bl_lt a b).2 (by omega), hne (by omega)⟩
  · exact .inr (.inl ⟨bytes_zero h, h, hlt (by omega)⟩)
  · exact .inr (.inr ⟨h, hlt (by omega), hne (by omega)⟩)

set_option maxRecDepth 100000 in
set_option maxHeartbeats 4000000 in
theorem rcompare_any (w : World) (ak an bk bn : Int) (sa sb : List UInt8) (ab bb : Bool) :
    Calls Tryz.prog 137 #[.agg #[.int .i64 ak, .int .i64 an, .string (strOf sa), .bool ab], .agg #[.int .i64 bk, .int .i64 bn, .string (strOf sb), .bool bb]] w
      fun e w' => e = .returned (.int .i64 (cmpV ⟨ak, an, sa, ab⟩ ⟨bk, bn, sb, bb⟩)) ∧ Grew w w' := by
  by_cases hk : ak = bk
  · subst hk
    by_cases h1 : ak = 1
    · subst h1
      have e : cmpV ⟨1, an, sa, ab⟩ ⟨1, bn, sb, bb⟩ = Lib.compareInt an bn := rfl
      rw [e]
      clear e
      rcases Int.lt_trichotomy an bn with h | h | h
      · have e : Lib.compareInt an bn = -1 := by unfold Lib.compareInt; rw [if_pos h]
        rw [e]
        have d1 : decide (an < bn) = true := decide_eq_true h
        have d2 : decide (bn < an) = false := decide_eq_false (by omega)
        clear e h
        go_enter Tryz.func137, Tryz.ntmps137
        go_wp2
        go_ret
        exact ⟨rfl, ((Grew.refl w).alloc _).alloc _⟩
      · subst h
        have e : Lib.compareInt an an = 0 := wo_int.refl an
        rw [e]
        clear e
        go_enter Tryz.func137, Tryz.ntmps137
        go_wp2
        go_ret
        exact ⟨rfl, ((Grew.refl w).alloc _).alloc _⟩
      · have e : Lib.compareInt an bn = 1 := by unfold Lib.compareInt; rw [if_neg (by omega), if_pos h]
        rw [e]
        have d1 : decide (an < bn) = false := decide_eq_false (by omega)
        have d2 : decide (bn < an) = true := decide_eq_true h
        clear e h
        go_enter Tryz.func137, Tryz.ntmps137
        go_wp2
        go_ret
        exact ⟨rfl, ((Grew.refl w).alloc _).alloc _⟩
    · have d1 := beq_int_ne h1
      by_cases h2 : ak = 2
      · subst h2
        have e : cmpV ⟨2, an, sa, ab⟩ ⟨2, bn, sb, bb⟩ = Lib.compareBytes sa sb := rfl
        rw [e]
        clear e d1 h1
        rcases bytes_cases sa sb with ⟨e, d1, d2⟩ | ⟨h, e, d1⟩ | ⟨e, d1, d2⟩
        · rw [e]
          clear e
          go_enter Tryz.func137, Tryz.ntmps137
          go_wp2
          go_ret
          exact ⟨rfl, ((Grew.refl w).alloc _).alloc _⟩
        · subst h
          rw [e]
          have d2 : (sa == sa) = true := beq_self_eq_true sa
          clear e
          go_enter Tryz.func137, Tryz.ntmps137
          go_wp2
          go_ret
          exact ⟨rfl, ((Grew.refl w).alloc _).alloc _⟩
        · rw [e]
          clear e
          go_enter Tryz.func137, Tryz.ntmps137
          go_wp2
          go_ret
          exact ⟨rfl, ((Grew.refl w).alloc _).alloc _⟩
      · have d2 := beq_int_ne h2
        by_cases h3 : ak = 3
        · subst h3
          have e : cmpV ⟨3, an, sa, ab⟩ ⟨3, bn, sb, bb⟩ = cmpB ab bb := rfl
          rw [e]
          clear e d1 h1 d2 h2
          cases ab <;> cases bb
          all_goals
            go_enter Tryz.func137, Tryz.ntmps137
            go_wp2
            go_ret
            exact ⟨rfl, ((Grew.refl w).alloc _).alloc _⟩
        · have d3 := beq_int_ne h3
          have e : cmpV ⟨ak, an, sa, ab⟩ ⟨ak, bn, sb, bb⟩ = 0 := by unfold cmpV; rw [if_pos rfl, if_neg h1, if_neg h2, if_neg h3]
          rw [e]
          clear e h1 h2 h3
          go_enter Tryz.func137, Tryz.ntmps137
          go_wp2
          go_ret
          exact ⟨rfl, ((Grew.refl w).alloc _).alloc _⟩
  · have e : cmpV ⟨ak, an, sa, ab⟩ ⟨bk, bn, sb, bb⟩ = Lib.compareInt ak bk := by unfold cmpV; rw [if_neg hk]
    rw [e]
    have d1 : (ak != bk) = true := by simp [hk]
    clear e
    rcases Int.lt_or_gt_of_ne hk with h | h
    · have e : Lib.compareInt ak bk = -1 := by unfold Lib.compareInt; rw [if_pos h]
      rw [e]
      have d2 : decide (ak < bk) = true := decide_eq_true h
      clear e h hk
      go_enter Tryz.func137, Tryz.ntmps137
      go_wp2
      go_ret
      exact ⟨rfl, ((Grew.refl w).alloc _).alloc _⟩
    · have e : Lib.compareInt ak bk = 1 := by unfold Lib.compareInt; rw [if_neg (by omega), if_pos h]
      rw [e]
      have d2 : decide (ak < bk) = false := decide_eq_false (by omega)
      clear e h hk
      go_enter Tryz.func137, Tryz.ntmps137
      go_wp2
      go_ret
      exact ⟨rfl, ((Grew.refl w).alloc _).alloc _⟩

end Go.Proofs.YtabegbelkfhbcaaGreat

namespace Go.Proofs.YtabegbelkfhbcaaGreat
open Go.RowKit

/-- The first place at which p holds, or -1. -/
def idxP {α : Type} (p : α → Bool) (l : List α) : Int := match l.findIdx? p with | some i => (i : Int) | none => -1
theorem idxP_hit {α : Type} {p : α → Bool} {l : List α} {k : Nat} (hk : k < l.length) (h : ∀ x ∈ l.take k, p x = false) (e : p l[k] = true) : idxP p l = k := by
  have : l.findIdx? p = some k := by
    rw [List.findIdx?_eq_some_iff_getElem]
    refine ⟨hk, e, fun j hj => ?_⟩
    have := h l[j] (by rw [List.mem_take_iff_getElem]; exact ⟨j, by omega, rfl⟩)
    rw [this]; simp
  unfold idxP; rw [this]
theorem idxP_miss {α : Type} {p : α → Bool} {l : List α} (h : ∀ x ∈ l, p x = false) : idxP p l = -1 := by
  have : l.findIdx? p = none := by
    rw [List.findIdx?_eq_none_iff]
    exact h
  unfold idxP; rw [this]
theorem idxP_any {α : Type} (p : α → Bool) (l : List α) : decide (0 ≤ idxP p l) = l.any p := by
  unfold idxP
  cases h : l.findIdx? p with
  | none =>
    rw [List.findIdx?_eq_none_iff] at h
    have : l.any p = false := List.any_eq_false.2 fun x hx => by rw [h x hx]; simp
    rw [this]; rfl
  | some i =>
    rw [List.findIdx?_eq_some_iff_getElem] at h
    obtain ⟨hi, e, _⟩ := h
    have : l.any p = true := List.any_eq_true.2 ⟨_, List.getElem_mem hi, e⟩
    rw [this]
    exact decide_eq_true (by show (0 : Int) ≤ (i : Int); omega)
theorem idxP_get {α : Type} (p : α → Bool) (l : List α) : (idxP p l = -1 ∧ l.find? p = none) ∨ ∃ (i : Nat) (hi : i < l.length), idxP p l = i ∧ l.find? p = some l[i] := by
  unfold idxP
  cases h : l.findIdx? p with
  | none =>
    rw [List.findIdx?_eq_none_iff] at h
    exact .inl ⟨rfl, List.find?_eq_none.2 fun x hx => by rw [h x hx]; simp⟩
  | some i =>
    rw [List.findIdx?_eq_some_iff_getElem] at h
    obtain ⟨hi, e, hb⟩ := h
    refine .inr ⟨i, hi, rfl, ?_⟩
    rw [List.find?_eq_some_iff_getElem]
    exact ⟨e, i, hi, rfl, fun j hj => by simpa using hb j hj⟩

set_option maxRecDepth 100000 in
set_option maxHeartbeats 2000000 in
theorem idxA_any (w : World) (v : Value) (l : List (List UInt8 × V)) (h : AttrR w v l) (g : Nat) (cb : Array Value) (p : List UInt8 × V → Bool) (eg : ∀ args w, (callFunc g args).run Tryz.prog w = .ok (.enter g args) w)
    (hc : ∀ (W : World) (x : List UInt8 × V) , Ext w W → x ∈ l → Calls Tryz.prog g (#[.agg #[.string (strOf x.1), .int .i64 x.2.k, .int .i64 x.2.n, .string (strOf x.2.s), .bool x.2.b]] ++ cb) W fun e W' => e = .returned (.bool (p x)) ∧ Ext W W') :
    Calls Tryz.prog 65 #[v, .func (.func g) #[] cb] w fun e w' => e = .returned (.int .i64 (idxP p l)) ∧ Ext w w' := by
  obtain ⟨a, cap, rfl, hcc, hm⟩ := Row.shape h
  unfold maxLen at hm
  generalize hn : l.length = n at *
  have HN := Lib.hid hn
  clear hn
  have HC := Lib.hid hc
  clear hc
  go_enter Tryz.func65, Tryz.ntmps65
  go_wp2_with fail
  go_loopw [5, 8] (fun _ i wr => ∃ k : Nat, k ≤ n ∧ i = .int .i64 k ∧ Hid (∀ x ∈ l.take k, p x = false) ∧ Ext w wr) (fun _ i _ => n - (intOf i).toNat)
  case atStart => exact ⟨0, Nat.zero_le _, rfl, (by show ∀ x ∈ l.take 0, _; simp), Ext.refl w⟩
  case round =>
    obtain ⟨k, hk, rfl, hall, hx⟩ := hrel
    by_cases hlt : k < n
    · have k1 : k < l.length := by rw [HN.out]; exact hlt
      have hI : decide ((k : Int) < (n : Int)) = true := decide_eq_true (by omega)
      have hext := h.ext hx
      obtain ⟨B1, o1, rfl, f0, f1, f2, f3, f4⟩ := AttrR.at hext k1
      have hcall := HC.out _ l[k] hx (List.getElem_mem k1)
      have hhit : p l[k] = true → idxP p l = k := fun e => idxP_hit k1 hall.out e
      have hnext : p l[k] = false → ∀ x ∈ l.take (k + 1), p x = false := fun e x hx => by
        rw [List.take_succ_eq_append_getElem k1] at hx
        rcases List.mem_append.1 hx with hx | hx
        · exact hall.out x hx
        · rw [List.mem_singleton.1 hx]; exact e
      generalize l[k] = x at *
      have HCALL := Lib.hid hcall
      clear hcall
      cases hq : p x with
      | true =>
        have hres := Lib.hid (hhit hq)
        have HQ := Lib.hid hq
        clear hhit hnext hq
        go_wp2_with (go_at_fn g; refine HCALL.out.mono ?_; rw [HQ.out]; rintro e w2 ⟨rfl, hx2⟩)
        go_ret
        exact ⟨by rw [hres.out]; rfl, hx.trans hx2⟩
      | false =>
        have hres := Lib.hid (hnext hq)
        have HQ := Lib.hid hq
        clear hhit hnext hq
        go_wp2_with (go_at_fn g; refine HCALL.out.mono ?_; rw [HQ.out]; rintro e w2 ⟨rfl, hx2⟩)
        go_roundw
        case rel => exact ⟨k + 1, hlt, by go_num, hres.out, hx.trans hx2⟩
        case measure => simp [intOf]; omega
    · obtain rfl : k = n := by omega
      have hI : decide ((k : Int) < (k : Int)) = false := decide_eq_false (by omega)
      have hres : Hid (idxP p l = -1) := by
        show _ = _
        refine idxP_miss fun x hx => hall.out x ?_
        rw [List.take_of_length_le (by rw [HN.out]; exact Nat.le_refl _)]; exact hx
      go_wp2_with fail
      go_ret
      exact ⟨by rw [hres.out]; rfl, hx⟩

set_option maxRecDepth 100000 in
set_option maxHeartbeats 2000000 in
theorem idxC_any (w : World) (v : Value) (l : List (C)) (h : PredR w v l) (g : Nat) (cb : Array Value) (p : C → Bool) (eg : ∀ args w, (callFunc g args).run Tryz.prog w = .ok (.enter g args) w)
    (hc : ∀ (W : World) (x : C) (sa : Option Addr) (sc : Nat) , Ext w W → x ∈ l → SetR W (.slice sa x.set.length sc) x.set → Calls Tryz.prog g (#[.agg #[.string (strOf x.name), .int .i64 x.op, .int .i64 x.v.k, .int .i64 x.v.n, .string (strOf x.v.s), .bool x.v.b, .slice sa x.set.length sc]] ++ cb) W fun e W' => e = .returned (.bool (p x)) ∧ Ext W W') :
    Calls Tryz.prog 64 #[v, .func (.func g) #[] cb] w fun e w' => e = .returned (.int .i64 (idxP p l)) ∧ Ext w w' := by
  obtain ⟨a, cap, rfl, hcc, hm⟩ := h.shape
  unfold maxLen at hm
  generalize hn : l.length = n at *
  have HN := Lib.hid hn
  clear hn
  have HC := Lib.hid hc
  clear hc
  go_enter Tryz.func64, Tryz.ntmps64
  go_wp2_with fail
  go_loopw [5, 8] (fun _ i wr => ∃ k : Nat, k ≤ n ∧ i = .int .i64 k ∧ Hid (∀ x ∈ l.take k, p x = false) ∧ Ext w wr) (fun _ i _ => n - (intOf i).toNat)
  case atStart => exact ⟨0, Nat.zero_le _, rfl, (by show ∀ x ∈ l.take 0, _; simp), Ext.refl w⟩
  case round =>
    obtain ⟨k, hk, rfl, hall, hx⟩ := hrel
    by_cases hlt : k < n
    · have k1 : k < l.length := by rw [HN.out]; exact hlt
      have hI : decide ((k : Int) < (n : Int)) = true := decide_eq_true (by omega)
      have hext := h.ext hx
      obtain ⟨B1, o1, sa, sc, rfl, f0, f1, f2, f3, f4, f5, f6, hs⟩ := PredR.at hext k1
      have hcall := HC.out _ l[k] sa sc hx (List.getElem_mem k1) hs
      have hhit : p l[k] = true → idxP p l = k := fun e => idxP_hit k1 hall.out e
      have hnext : p l[k] = false → ∀ x ∈ l.take (k + 1), p x = false := fun e x hx => by
        rw [List.take_succ_eq_append_getElem k1] at hx
        rcases List.mem_append.1 hx with hx | hx
        · exact hall.out x hx
        · rw [List.mem_singleton.1 hx]; exact e
      generalize l[k] = x at *
      have HCALL := Lib.hid hcall
      clear hcall
      cases hq : p x with
      | true =>
        have hres := Lib.hid (hhit hq)
        have HQ := Lib.hid hq
        clear hhit hnext hq
        go_wp2_with (go_at_fn g; refine HCALL.out.mono ?_; rw [HQ.out]; rintro e w2 ⟨rfl, hx2⟩)
        go_ret
        exact ⟨by rw [hres.out]; rfl, hx.trans hx2⟩
      | false =>
        have hres := Lib.hid (hnext hq)
        have HQ := Lib.hid hq
        clear hhit hnext hq
        go_wp2_with (go_at_fn g; refine HCALL.out.mono ?_; rw [HQ.out]; rintro e w2 ⟨rfl, hx2⟩)
        go_roundw
        case rel => exact ⟨k + 1, hlt, by go_num, hres.out, hx.trans hx2⟩
        case measure => simp [intOf]; omega
    · obtain rfl : k = n := by omega
      have hI : decide ((k : Int) < (k : Int)) = false := decide_eq_false (by omega)
      have hres : Hid (idxP p l = -1) := by
        show _ = _
        refine idxP_miss fun x hx => hall.out x ?_
        rw [List.take_of_length_le (by rw [HN.out]; exact Nat.le_refl _)]; exact hx
      go_wp2_with fail
      go_ret
      exact ⟨by rw [hres.out]; rfl, hx⟩

set_option maxRecDepth 100000 in
set_option maxHeartbeats 2000000 in
theorem hasC_any (w : World) (v : Value) (l : List (C)) (h : PredR w v l) (g : Nat) (cb : Array Value) (p : C → Bool) (eg : ∀ args w, (callFunc g args).run Tryz.prog w = .ok (.enter g args) w)
    (hc : ∀ (W : World) (x : C) (sa : Option Addr) (sc : Nat) , Ext w W → x ∈ l → SetR W (.slice sa x.set.length sc) x.set → Calls Tryz.prog g (#[.agg #[.string (strOf x.name), .int .i64 x.op, .int .i64 x.v.k, .int .i64 x.v.n, .string (strOf x.v.s), .bool x.v.b, .slice sa x.set.length sc]] ++ cb) W fun e W' => e = .returned (.bool (p x)) ∧ Ext W W') :
    Calls Tryz.prog 38 #[v, .func (.func g) #[] cb] w fun e w' => e = .returned (.bool (l.any p)) ∧ Ext w w' := by
  have hcon := idxC_any w v l h g cb p eg hc
  have hb := Lib.hid (idxP_any p l)
  clear hc
  generalize idxP p l = i at *
  obtain ⟨a, cap, rfl, hcc, hm⟩ := h.shape
  go_enter Tryz.func38, Tryz.ntmps38
  go_wp2_with (go_at_call 64; refine hcon.mono ?_; rintro e w' ⟨rfl, hx⟩)
  go_ret
  exact ⟨by rw [hb.out]; rfl, hx⟩

set_option maxRecDepth 100000 in
set_option maxHeartbeats 2000000 in
theorem idxV_any (w : World) (v : Value) (l : List (V)) (h : SetR w v l) (g : Nat) (cb : Array Value) (p : V → Bool) (eg : ∀ args w, (callFunc g args).run Tryz.prog w = .ok (.enter g args) w)
    (hc : ∀ (W : World) (x : V) , Ext w W → x ∈ l → Calls Tryz.prog g (#[.agg #[.int .i64 x.k, .int .i64 x.n, .string (strOf x.s), .bool x.b]] ++ cb) W fun e W' => e = .returned (.bool (p x)) ∧ Ext W W') :
    Calls Tryz.prog 96 #[v, .func (.func g) #[] cb] w fun e w' => e = .returned (.int .i64 (idxP p l)) ∧ Ext w w' := by
  obtain ⟨a, cap, rfl, hcc, hm⟩ := Row.shape h
  unfold maxLen at hm
  generalize hn : l.length = n at *
  have HN := Lib.hid hn
  clear hn
  have HC := Lib.hid hc
  clear hc
  go_enter Tryz.func96, Tryz.ntmps96
  go_wp2_with fail
  go_loopw [5, 8] (fun _ i wr => ∃ k : Nat, k ≤ n ∧ i = .int .i64 k ∧ Hid (∀ x ∈ l.take k, p x = false) ∧ Ext w wr) (fun _ i _ => n - (intOf i).toNat)
  case atStart => exact ⟨0, Nat.zero_le _, rfl, (by show ∀ x ∈ l.take 0, _; simp), Ext.refl w⟩
  case round =>
    obtain ⟨k, hk, rfl, hall, hx⟩ := hrel
    by_cases hlt : k < n
    · have k1 : k < l.length := by rw [HN.out]; exact hlt
      have hI : decide ((k : Int) < (n : Int)) = true := decide_eq_true (by omega)
      have hext := h.ext hx
      obtain ⟨B1, o1, rfl, f0, f1, f2, f3⟩ := SetR.at hext k1
      have hcall := HC.out _ l[k] hx (List.getElem_mem k1)
      have hhit : p l[k] = true → idxP p l = k := fun e => idxP_hit k1 hall.out e
      have hnext : p l[k] = false → ∀ x ∈ l.take (k + 1), p x = false := fun e x hx => by
        rw [List.take_succ_eq_append_getElem k1] at hx
        rcases List.mem_append.1 hx with hx | hx
        · exact hall.out x hx
        · rw [List.mem_singleton.1 hx]; exact e
      generalize l[k] = x at *
      have HCALL := Lib.hid hcall
      clear hcall
      cases hq : p x with
      | true =>
        have hres := Lib.hid (hhit hq)
        have HQ := Lib.hid hq
        clear hhit hnext hq
        go_wp2_with (go_at_fn g; refine HCALL.out.mono ?_; rw [HQ.out]; rintro e w2 ⟨rfl, hx2⟩)
        go_ret
        exact ⟨by rw [hres.out]; rfl, hx.trans hx2⟩
      | false =>
        have hres := Lib.hid (hnext hq)
        have HQ := Lib.hid hq
        clear hhit hnext hq
        go_wp2_with (go_at_fn g; refine HCALL.out.mono ?_; rw [HQ.out]; rintro e w2 ⟨rfl, hx2⟩)
        go_roundw
        case rel => exact ⟨k + 1, hlt, by go_num, hres.out, hx.trans hx2⟩
        case measure => simp [intOf]; omega
    · obtain rfl : k = n := by omega
      have hI : decide ((k : Int) < (k : Int)) = false := decide_eq_false (by omega)
      have hres : Hid (idxP p l = -1) := by
        show _ = _
        refine idxP_miss fun x hx => hall.out x ?_
        rw [List.take_of_length_le (by rw [HN.out]; exact Nat.le_refl _)]; exact hx
      go_wp2_with fail
      go_ret
      exact ⟨by rw [hres.out]; rfl, hx⟩

set_option maxRecDepth 100000 in
set_option maxHeartbeats 2000000 in
theorem hasV_any (w : World) (v : Value) (l : List (V)) (h : SetR w v l) (g : Nat) (cb : Array Value) (p : V → Bool) (eg : ∀ args w, (callFunc g args).run Tryz.prog w = .ok (.enter g args) w)
    (hc : ∀ (W : World) (x : V) , Ext w W → x ∈ l → Calls Tryz.prog g (#[.agg #[.int .i64 x.k, .int .i64 x.n, .string (strOf x.s), .bool x.b]] ++ cb) W fun e W' => e = .returned (.bool (p x)) ∧ Ext W W') :
    Calls Tryz.prog 68 #[v, .func (.func g) #[] cb] w fun e w' => e = .returned (.bool (l.any p)) ∧ Ext w w' := by
  have hcon := idxV_any w v l h g cb p eg hc
  have hb := Lib.hid (idxP_any p l)
  clear hc
  generalize idxP p l = i at *
  obtain ⟨a, cap, rfl, hcc, hm⟩ := Row.shape h
  go_enter Tryz.func68, Tryz.ntmps68
  go_wp2_with (go_at_call 96; refine hcon.mono ?_; rintro e w' ⟨rfl, hx⟩)
  go_ret
  exact ⟨by rw [hb.out]; rfl, hx⟩

end Go.Proofs.YtabegbelkfhbcaaGreat
