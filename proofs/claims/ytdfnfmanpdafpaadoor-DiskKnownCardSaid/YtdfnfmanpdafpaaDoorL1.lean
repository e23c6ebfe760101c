/- What memory holds, read: rows of structs, values, constraints, predicates, attributes; worlds that only grew and drew. -/
import Derived.Test.YtdfnfmanpdafpaaDoorK2
import Derived.Test.YtdfnfmanpdafpaaDoorV2
import Derived.Sort.Grow
import Derived.Deep.Draws
namespace Go.Proofs.YtdfnfmanpdafpaaDoor
open Go.RowKit

/-- w' is w, with more memory and more draws: nothing that was there has turned. -/
def Grew (w w' : World) : Prop := Ext w w' ∧ w.drawn ≤ w'.drawn
theorem Grew.refl (w : World) : Grew w w := ⟨Ext.refl w, Nat.le_refl _⟩
theorem Grew.trans {a b c : World} (h : Grew a b) (k : Grew b c) : Grew a c := ⟨h.1.trans k.1, Nat.le_trans h.2 k.2⟩
theorem Grew.drew {a w : World} (h : Grew a w) : Grew a w.drew := ⟨h.1.drew, Nat.le_succ_of_le h.2⟩
theorem Grew.alloc {a w : World} (h : Grew a w) (o : Obj) : Grew a (w.alloc o) := ⟨h.1.alloc o, h.2⟩
theorem Grew.drewN {a w : World} (h : Grew a w) (n : Nat) : Grew a (w.drewN n) := ⟨⟨h.1.os, h.1.tape, h.1.output, h.1.size, h.1.block⟩, Nat.le_trans h.2 (Nat.le_add_right _ _)⟩
theorem Ext.drewN {a w : World} (h : Ext a w) (n : Nat) : Ext a (w.drewN n) := ⟨h.os, h.tape, h.output, h.size, h.block⟩
/-- In the sort's words. -/
theorem Grew.grown {w w' : World} (h : Grew w w') : ∃ q os, w' = Go.Sort.grow (w.drewN q) os := by
  obtain ⟨hx, hd⟩ := h
  refine ⟨w'.drawn - w.drawn, w'.heap.extract w.heap.size w'.heap.size, ?_⟩
  obtain ⟨wh, wt, wd, wo, wp⟩ := w
  obtain ⟨vh, vt, vd, vo, vp⟩ := w'
  have h1 : vt = wt := hx.tape
  have h2 : vo = wo := hx.os
  have h3 : vp = wp := hx.output
  have h4 : wh.size ≤ vh.size := hx.size
  have h5 : ∀ k, k < wh.size → vh[k]? = wh[k]? := hx.block
  subst h1; subst h2; subst h3
  have hdd : wd + (vd - wd) = vd := by have : wd ≤ vd := hd; omega
  have hh : vh = wh ++ vh.extract wh.size vh.size := by
    apply Array.ext_getElem?
    intro i
    rw [Array.getElem?_append]
    split
    · rename_i hi; exact h5 i hi
    · rename_i hi
      rw [Array.getElem?_extract]
      by_cases hv : i < vh.size
      · rw [if_pos (by omega)]; congr 1; omega
      · rw [if_neg (by omega), Array.getElem?_eq_none (by omega)]
  show (⟨vh, vt, vd, vo, vp⟩ : World) = ⟨wh ++ vh.extract wh.size vh.size, vt, wd + (vd - wd), vo, vp⟩
  rw [hdd, ← hh]
theorem Grew.of_grown (w : World) (q : Nat) (os : Array Obj) : Grew w (Go.Sort.grow (w.drewN q) os) := by
  refine ⟨⟨rfl, rfl, rfl, ?_, fun k hk => ?_⟩, Nat.le_add_right _ _⟩
  · show w.heap.size ≤ (w.heap ++ os).size
    rw [Array.size_append]; omega
  · show (w.heap ++ os)[k]? = w.heap[k]?
    rw [Array.getElem?_append_left hk]

/-! Rows of structs -/
section
variable {α : Type}
theorem flat_len (f : α → List Value) (sz : Nat) (hf : ∀ x, (f x).length = sz) (xs : List α) : (xs.flatMap f).length = xs.length * sz := by
  induction xs with
  | nil => simp
  | cons x xs ih => rw [List.flatMap_cons, List.length_append, ih, hf, List.length_cons, Nat.succ_mul]; omega
theorem flat_get (f : α → List Value) (sz : Nat) (hf : ∀ x, (f x).length = sz) : ∀ (xs : List α) (k : Nat) (hk : k < xs.length) (j : Nat), j < sz → (xs.flatMap f)[k * sz + j]? = (f xs[k])[j]?
  | [], k, hk, _, _ => by simp at hk
  | x :: xs, 0, _, j, hj => by
    rw [List.flatMap_cons, Nat.zero_mul, Nat.zero_add, List.getElem?_append_left (by rw [hf]; exact hj)]; rfl
  | x :: xs, k + 1, hk, j, hj => by
    rw [List.flatMap_cons, List.getElem?_append_right (by rw [hf, Nat.succ_mul]; omega), hf]
    have e : (k + 1) * sz + j - sz = k * sz + j := by rw [Nat.succ_mul]; omega
    rw [e, flat_get f sz hf xs k (by simpa using hk) j hj]; rfl
theorem flat_take (f : α → List Value) (sz : Nat) (hf : ∀ x, (f x).length = sz) : ∀ (xs : List α) (k : Nat), (xs.flatMap f).take (k * sz) = (xs.take k).flatMap f
  | [], k => by simp
  | x :: xs, 0 => by simp
  | x :: xs, k + 1 => by
    rw [List.flatMap_cons, List.take_succ_cons, List.flatMap_cons, Nat.succ_mul, Nat.add_comm, List.take_append, hf, List.take_of_length_le (by rw [hf]; omega), Nat.add_sub_cancel_left, flat_take f sz hf xs k]
theorem flat_drop (f : α → List Value) (sz : Nat) (hf : ∀ x, (f x).length = sz) : ∀ (xs : List α) (k : Nat), (xs.flatMap f).drop (k * sz) = (xs.drop k).flatMap f
  | [], k => by simp
  | x :: xs, 0 => by simp
  | x :: xs, k + 1 => by
    rw [List.flatMap_cons, List.drop_succ_cons, Nat.succ_mul, Nat.add_comm, List.drop_append, hf, List.drop_of_length_le (by rw [hf]; omega), Nat.add_sub_cancel_left, flat_drop f sz hf xs k, List.nil_append]
end

theorem Row.cell {w : World} {size n m cap : Nat} {a : Option Addr} {xs : List Value} {u : Value} (h : Row w size (.slice a m cap) n xs) {j : Nat} (hj : xs[j]? = some u) (hn : 0 < n) : ∃ B o, a = some ⟨B, o, none⟩ ∧ w.cell? ⟨B, o + j, none⟩ = some u := by
  obtain ⟨_, a', cap', hv, hc, _, _, hspot, hcell⟩ := h
  simp only [Value.slice.injEq] at hv
  obtain ⟨rfl, rfl, rfl⟩ := hv
  obtain ⟨p, rfl, hcl⟩ := hcell j u hj
  have := hspot p rfl (by omega)
  obtain ⟨pb, po, ps⟩ := p
  simp only at this
  subst this
  exact ⟨pb, po, rfl, hcl⟩
theorem Row.shape {w : World} {size n : Nat} {v : Value} {xs : List Value} (h : Row w size v n xs) : ∃ a cap, v = .slice a n cap ∧ n ≤ cap ∧ cap ≤ maxLen := by
  obtain ⟨_, a, cap, h1, h2, h3, _⟩ := h; exact ⟨a, cap, h1, h2, h3⟩
theorem Row.base {w : World} {size n m cap : Nat} {a : Option Addr} {xs : List Value} (h : Row w size (.slice a m cap) n xs) (hn : 0 < n) (hs : 0 < size) : ∃ B o, a = some ⟨B, o, none⟩ := by
  have hl := h.1
  have : 0 < xs.length := by rw [hl]; exact Nat.mul_pos hn hs
  obtain ⟨B, o, e, _⟩ := Row.cell h (j := 0) (List.getElem?_eq_getElem this) hn
  exact ⟨B, o, e⟩
theorem Row.cellAt {w : World} {size n m cap B o : Nat} {xs : List Value} {u : Value} (h : Row w size (.slice (some ⟨B, o, none⟩) m cap) n xs) {j : Nat} (hj : xs[j]? = some u) (hn : 0 < n) : w.cell? ⟨B, o + j, none⟩ = some u := by
  obtain ⟨B', o', e, hc⟩ := Row.cell h hj hn
  cases e; exact hc

/-- A part of a row. -/
theorem Row.sub {w : World} {size n cap : Nat} {a : Option Addr} {xs : List Value} (h : Row w size (.slice a n cap) n xs) (i j : Nat) (hij : i ≤ j) (hj : j ≤ n) (c : Nat) (hc : j - i ≤ c) (hcc : c ≤ cap - i) : Row w size (.slice (if cap = i then a else a.map (·.add (i * size))) (j - i) c) (j - i) ((xs.take (j * size)).drop (i * size)) := by
  obtain ⟨hl, a', cap', hv, hcp, hm, hnil, hspot, hcell⟩ := h
  simp only [Value.slice.injEq] at hv
  obtain ⟨rfl, -, rfl⟩ := hv
  refine ⟨?_, _, _, rfl, hc, by omega, fun he => ?_, fun p hp h0 => ?_, fun k u hk => ?_⟩
  · rw [List.length_drop, List.length_take, hl, Nat.sub_mul, Nat.min_eq_left (Nat.mul_le_mul_right _ hj)]
  · split at he
    · have := hnil he; omega
    · cases a with
      | none => have := hnil rfl; omega
      | some p => simp at he
  · split at hp
    · exact hspot p hp (by omega)
    · cases a with
      | none => simp at hp
      | some p' =>
        simp at hp
        rw [← hp]
        unfold Addr.add
        split
        · exact hspot p' rfl (by omega)
        · rfl
  · rw [List.getElem?_drop, List.getElem?_take] at hk
    split at hk
    · rename_i hlt
      obtain ⟨p, hp, hcl⟩ := hcell _ _ hk
      have hne : ¬ cap = i := by
        intro he
        have : j = i := by omega
        subst this
        omega
      rw [if_neg hne, hp]
      refine ⟨p.add (i * size), rfl, ?_⟩
      have hps := hspot p hp (by omega)
      obtain ⟨pb, po, ps⟩ := p
      simp only at hps
      subst hps
      by_cases h0 : i * size = 0
      · simp only [Addr.add, h0, if_true]
        rw [h0, Nat.zero_add] at hcl
        exact hcl
      · simp only [Addr.add, h0, if_false]
        rw [Nat.add_assoc]; exact hcl
    · cases hk

/-! Values, constraints, predicates, attributes -/
def vC (v : V) : List Value := [.int .i64 v.k, .int .i64 v.n, .string (strOf v.s), .bool v.b]
theorem vC_len (v : V) : (vC v).length = 4 := rfl
def SetR (W : World) (h : Value) (l : List V) : Prop := Row W 4 h l.length (l.flatMap vC)
theorem SetR.ext {W W' : World} {h : Value} {l : List V} (k : SetR W h l) (hx : Ext W W') : SetR W' h l := Row.ext k hx
theorem SetR.nil (W : World) : SetR W (.slice none 0 0) [] := Row.nil W 4
theorem SetR.at {W : World} {a : Option Addr} {n cap : Nat} {l : List V} (h : SetR W (.slice a n cap) l) {k : Nat} (hk : k < l.length) :
    ∃ B o, a = some ⟨B, o, none⟩ ∧ W.cell? ⟨B, o + k * 4, none⟩ = some (.int .i64 l[k].k) ∧ W.cell? ⟨B, o + k * 4 + 1, none⟩ = some (.int .i64 l[k].n) ∧ W.cell? ⟨B, o + k * 4 + 2, none⟩ = some (.string (strOf l[k].s)) ∧ W.cell? ⟨B, o + k * 4 + 3, none⟩ = some (.bool l[k].b) := by
  obtain ⟨B, o, rfl⟩ := Row.base h (by omega) (by decide)
  have g := fun j hj => flat_get vC 4 vC_len l k hk j hj
  exact ⟨B, o, rfl, Row.cellAt h (g 0 (by decide)) (by omega), Row.cellAt h (g 1 (by decide)) (by omega), Row.cellAt h (g 2 (by decide)) (by omega), Row.cellAt h (g 3 (by decide)) (by omega)⟩

/-- A constraint where it stands: its set's slice. -/
structure CS where
  c : C
  h : Value
def csC (x : CS) : List Value := [.string (strOf x.c.name), .int .i64 x.c.op, .int .i64 x.c.v.k, .int .i64 x.c.v.n, .string (strOf x.c.v.s), .bool x.c.v.b, x.h]
theorem csC_len (x : CS) : (csC x).length = 7 := rfl
def PredR (W : World) (v : Value) (p : List C) : Prop := ∃ us : List CS, us.map CS.c = p ∧ Row W 7 v us.length (us.flatMap csC) ∧ ∀ x ∈ us, SetR W x.h x.c.set
theorem PredR.ext {W W' : World} {v : Value} {p : List C} (h : PredR W v p) (hx : Ext W W') : PredR W' v p := by
  obtain ⟨us, h1, h2, h3⟩ := h
  exact ⟨us, h1, h2.ext hx, fun x hm => (h3 x hm).ext hx⟩
theorem PredR.nil (W : World) : PredR W (.slice none 0 0) [] := ⟨[], rfl, Row.nil W 7, fun _ h => by cases h⟩
theorem PredR.shape {W : World} {v : Value} {p : List C} (h : PredR W v p) : ∃ a cap, v = .slice a p.length cap ∧ p.length ≤ cap ∧ cap ≤ maxLen := by
  obtain ⟨us, rfl, h2, _⟩ := h
  obtain ⟨a, cap, e, h3, h4⟩ := Row.shape h2
  exact ⟨a, cap, by rw [e, List.length_map], by rw [List.length_map]; exact h3, h4⟩
theorem PredR.at {W : World} {a : Option Addr} {n cap : Nat} {p : List C} (h : PredR W (.slice a n cap) p) {k : Nat} (hk : k < p.length) :
    ∃ B o sa sc, a = some ⟨B, o, none⟩ ∧ W.cell? ⟨B, o + k * 7, none⟩ = some (.string (strOf p[k].name)) ∧ W.cell? ⟨B, o + k * 7 + 1, none⟩ = some (.int .i64 p[k].op) ∧ W.cell? ⟨B, o + k * 7 + 2, none⟩ = some (.int .i64 p[k].v.k) ∧ W.cell? ⟨B, o + k * 7 + 3, none⟩ = some (.int .i64 p[k].v.n) ∧
      W.cell? ⟨B, o + k * 7 + 4, none⟩ = some (.string (strOf p[k].v.s)) ∧ W.cell? ⟨B, o + k * 7 + 5, none⟩ = some (.bool p[k].v.b) ∧ W.cell? ⟨B, o + k * 7 + 6, none⟩ = some (.slice sa p[k].set.length sc) ∧ SetR W (.slice sa p[k].set.length sc) p[k].set := by
  obtain ⟨us, rfl, h2, h3⟩ := h
  have hk' : k < us.length := by simpa using hk
  obtain ⟨B, o, rfl⟩ := Row.base h2 (by omega) (by decide)
  have g := fun j hj => flat_get csC 7 csC_len us k hk' j hj
  have e : (us.map CS.c)[k] = us[k].c := by simp
  have hs := h3 us[k] (List.getElem_mem hk')
  obtain ⟨sa, sc, es, _, _⟩ := Row.shape hs
  rw [e]
  have g6 := Row.cellAt h2 (g 6 (by decide)) (by omega)
  rw [es] at hs
  refine ⟨B, o, sa, sc, rfl, Row.cellAt h2 (g 0 (by decide)) (by omega), Row.cellAt h2 (g 1 (by decide)) (by omega), Row.cellAt h2 (g 2 (by decide)) (by omega), Row.cellAt h2 (g 3 (by decide)) (by omega), Row.cellAt h2 (g 4 (by decide)) (by omega), Row.cellAt h2 (g 5 (by decide)) (by omega), ?_, hs⟩
  rw [← es]; exact g6
theorem PredR.mk {W : World} {v : Value} (us : List CS) (h : Row W 7 v us.length (us.flatMap csC)) (hs : ∀ x ∈ us, SetR W x.h x.c.set) : PredR W v (us.map CS.c) := ⟨us, rfl, h, hs⟩

def aC (x : List UInt8 × V) : List Value := [.string (strOf x.1), .int .i64 x.2.k, .int .i64 x.2.n, .string (strOf x.2.s), .bool x.2.b]
theorem aC_len (x : List UInt8 × V) : (aC x).length = 5 := rfl
def AttrR (W : World) (v : Value) (l : List (List UInt8 × V)) : Prop := Row W 5 v l.length (l.flatMap aC)
theorem AttrR.ext {W W' : World} {v : Value} {l : List (List UInt8 × V)} (h : AttrR W v l) (hx : Ext W W') : AttrR W' v l := Row.ext h hx
theorem AttrR.nil (W : World) : AttrR W (.slice none 0 0) [] := Row.nil W 5
theorem AttrR.at {W : World} {a : Option Addr} {n cap : Nat} {l : List (List UInt8 × V)} (h : AttrR W (.slice a n cap) l) {k : Nat} (hk : k < l.length) :
    ∃ B o, a = some ⟨B, o, none⟩ ∧ W.cell? ⟨B, o + k * 5, none⟩ = some (.string (strOf l[k].1)) ∧ W.cell? ⟨B, o + k * 5 + 1, none⟩ = some (.int .i64 l[k].2.k) ∧ W.cell? ⟨B, o + k * 5 + 2, none⟩ = some (.int .i64 l[k].2.n) ∧ W.cell? ⟨B, o + k * 5 + 3, none⟩ = some (.string (strOf l[k].2.s)) ∧ W.cell? ⟨B, o + k * 5 + 4, none⟩ = some (.bool l[k].2.b) := by
  obtain ⟨B, o, rfl⟩ := Row.base h (by omega) (by decide)
  have g := fun j hj => flat_get aC 5 aC_len l k hk j hj
  exact ⟨B, o, rfl, Row.cellAt h (g 0 (by decide)) (by omega), Row.cellAt h (g 1 (by decide)) (by omega), Row.cellAt h (g 2 (by decide)) (by omega), Row.cellAt h (g 3 (by decide)) (by omega), Row.cellAt h (g 4 (by decide)) (by omega)⟩

end Go.Proofs.YtdfnfmanpdafpaaDoor
