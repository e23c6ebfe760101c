/- What memory holds, read: rows of structs, values, constraints, predicates, attributes; worlds that only grew and drew.
DERIVED: THE SHELF's CONTRACTS AT THIS DUMP, IN PLAIN WORDS (tools/lay-plain.mjs out of 'YtcgflkfbjnpdiaaGreatSh.lean', which tools/lay-shelf.mjs wrote): THE SAME DECLARATIONS UNDER THE SAME YtcgflkfbjnpdiaaGreatS: 'import', 'namespace', 'open', 'def', 'theorem' AND NOTHING ELSE: no command of the shelf's: FOR A HAND-IN. Each laying: the table of numbers ('.._ren') and one theorem, a field a fact of the dump's own or the kernel's comparison; each contract: ONE APPLICATION.
A row of the call's own, sorted: the sort's words (at structs) and the row's. -/
import Derived.Sort.Grow
import Derived.Deep.Draws
import Derived.Shelf.Sort.Plain
import Derived.Shelf.Slices.In.SortNone
import Derived.Shelf.Slices.In.SortNone2
import Derived.Test.YtcgflkfbjnpdiaaGreatProg
import Derived.Shelf.SlSortCmp.NoneTotal
import Derived.Sort.OwnSorted
import Derived.Test.YtcgflkfbjnpdiaaGreatP1
namespace Go.Proofs.YtcgflkfbjnpdiaaGreat
open Go.RowKit

/-- w' is w, with more memory and more draws: nothing that was there has turned. -/
def Grew (w w' : World) : Prop := Ext w w' ∧ w.drawn ≤ w'.drawn
theorem Grew.refl (w : World) : Grew w w := ⟨Ext.refl w, Nat.le_refl _⟩
theorem Grew.trans {a b c : World} (h : Grew a b) (k : Grew b c) : Grew a c := ⟨h.1.trans k.1, Nat.le_trans h.2 k.2⟩
theorem Grew.drew {a w : World} (h : Grew a w) : Grew a w.drew := ⟨h.1.drew, Nat.le_succ_of_le h.2⟩
theorem Grew.alloc {a w : World} (h : Grew a w) (o : Obj) : Grew a (w.alloc o) := ⟨h.1.alloc o, h.2⟩
theorem Grew.drewN {a w : World} (h : Grew a w) (n : Nat) : Grew a (w.drewN n) := ⟨⟨h.1.os, h.1.tape, h.1.output, h.1.size, h.1.block⟩, Nat.le_trans h.2 (Nat.le_add_right _ _)⟩
theorem Ext.drewN {a w : World} (h : Ext a w) (n : Nat) : Ext a (w.drewN n) := ⟨h.os, h.tape, h.output, h.size, h.block⟩
/-- In the sort's words. -/
theorem Grew.grown {w w' : World} (h : Grew w w') : ∃ q os, w' = Go.Sort.grow (w.drewN q) os := by
  obtain ⟨hx, hd⟩ := h
  refine ⟨w'.drawn - w.drawn, w'.heap.extract w.heap.size w'.heap.size, ?_⟩
  obtain ⟨wh, wt, wd, wo, wp⟩ := w
  obtain ⟨vh, vt, vd, vo, vp⟩ := w'
  have h1 : vt = wt := hx.tape
  have h2 : vo = wo := hx.os
  have h3 : vp = wp := hx.output
  have h4 : wh.size ≤ vh.size := hx.size
  have h5 : ∀ k, k < wh.size → vh[k]? = wh[k]? := hx.block
  subst h1; subst h2; subst h3
  have hdd : wd + (vd - wd) = vd := by have : wd ≤ vd := hd; omega
  have hh : vh = wh ++ vh.extract wh.size vh.size := by
    apply Array.ext_getElem?
    intro i
    rw [Array.getElem?_append]
    split
    · rename_i hi; exact h5 i hi
    · rename_i hi
      rw [Array.getElem?_extract]
      by_cases hv : i < vh.size
      · rw [if_pos (by omega)]; congr 1; omega
      · rw [if_neg (by omega), Array.getElem?_eq_none (by omega)]
  show (⟨vh, vt, vd, vo, vp⟩ : World) = ⟨wh ++ vh.extract wh.size vh.size, vt, wd + (vd - wd), vo, vp⟩
  rw [hdd, ← hh]
theorem Grew.of_grown (w : World) (q : Nat) (os : Array Obj) : Grew w (Go.Sort.grow (w.drewN q) os) := by
  refine ⟨⟨rfl, rfl, rfl, ?_, fun k hk => ?_⟩, Nat.le_add_right _ _⟩
  · show w.heap.size ≤ (w.heap ++ os).size
    rw [Array.size_append]; omega
  · show (w.heap ++ os)[k]? = w.heap[k]?
    rw [Array.getElem?_append_left hk]

/-! Rows of structs -/
section
variable {α : Type}
theorem flat_len (f : α → List Value) (sz : Nat) (hf : ∀ x, (f x).length = sz) (xs : List α) : (xs.flatMap f).length = xs.length * sz := by
  induction xs with
  | nil => simp
  | cons x xs ih => rw [List.flatMap_cons, List.length_append, ih, hf, List.length_cons, Nat.succ_mul]; omega
theorem flat_get (f : α → List Value) (sz : Nat) (hf : ∀ x, (f x).length = sz) : ∀ (xs : List α) (k : Nat) (hk : k < xs.length) (j : Nat), j < sz → (xs.flatMap f)[k * sz + j]? = (f xs[k])[j]?
  | [], k, hk, _, _ => by simp at hk
  | x :: xs, 0, _, j, hj => by
    rw [List.flatMap_cons, Nat.zero_mul, Nat.zero_add, List.getElem?_append_left (by rw [hf]; exact hj)]; rfl
  | x :: xs, k + 1, hk, j, hj => by
    rw [List.flatMap_cons, List.getElem?_append_right (by rw [hf, Nat.succ_mul]; omega), hf]
    have e : (k + 1) * sz + j - sz = k * sz + j := by rw [Nat.succ_mul]; omega
    rw [e, flat_get f sz hf xs k (by simpa using hk) j hj]; rfl
theorem flat_take (f : α → List Value) (sz : Nat) (hf : ∀ x, (f x).length = sz) : ∀ (xs : List α) (k : Nat), (xs.flatMap f).take (k * sz) = (xs.take k).flatMap f
  | [], k => by simp
  | x :: xs, 0 => by simp
  | x :: xs, k + 1 => by
    rw [List.flatMap_cons, List.take_succ_cons, List.flatMap_cons, Nat.succ_mul, Nat.add_comm, List.take_append, hf, List.take_of_length_le (by rw [hf]; omega), Nat.add_sub_cancel_left, flat_take f sz hf xs k]
theorem flat_drop (f : α → List Value) (sz : Nat) (hf : ∀ x, (f x).length = sz) : ∀ (xs : List α) (k : Nat), (xs.flatMap f).drop (k * sz) = (xs.drop k).flatMap f
  | [], k => by simp
  | x :: xs, 0 => by simp
  | x :: xs, k + 1 => by
    rw [List.flatMap_cons, List.drop_succ_cons, Nat.succ_mul, Nat.add_comm, List.drop_append, hf, List.drop_of_length_le (by rw [hf]; omega), Nat.add_sub_cancel_left, flat_drop f sz hf xs k, List.nil_append]
end

theorem Row.cell {w : World} {size n m cap : Nat} {a : Option Addr} {xs : List Value} {u : Value} (h : Row w size (.slice a m cap) n xs) {j : Nat} (hj : xs[j]? = some u) (hn : 0 < n) : ∃ B o, a = some ⟨B, o, none⟩ ∧ w.cell? ⟨B, o + j, none⟩ = some u := by
  obtain ⟨_, a', cap', hv, hc, _, _, hspot, hcell⟩ := h
  simp only [Value.slice.injEq] at hv
  obtain ⟨rfl, rfl, rfl⟩ := hv
  obtain ⟨p, rfl, hcl⟩ := hcell j u hj
  have := hspot p rfl (by omega)
  obtain ⟨pb, po, ps⟩ := p
  simp only at this
  subst this
  exact ⟨pb, po, rfl, hcl⟩
theorem Row.shape {w : World} {size n : Nat} {v : Value} {xs : List Value} (h : Row w size v n xs) : ∃ a cap, v = .slice a n cap ∧ n ≤ cap ∧ cap ≤ maxLen := by
  obtain ⟨_, a, cap, h1, h2, h3, _⟩ := h; exact ⟨a, cap, h1, h2, h3⟩
theorem Row.base {w : World} {size n m cap : Nat} {a : Option Addr} {xs : List Value} (h : Row w size (.slice a m cap) n xs) (hn : 0 < n) (hs : 0 < size) : ∃ B o, a = some ⟨B, o, none⟩ := by
  have hl := h.1
  have : 0 < xs.length := by rw [hl]; exact Nat.mul_pos hn hs
  obtain ⟨B, o, e, _⟩ := Row.cell h (j := 0) (List.getElem?_eq_getElem this) hn
  exact ⟨B, o, e⟩
theorem Row.cellAt {w : World} {size n m cap B o : Nat} {xs : List Value} {u : Value} (h : Row w size (.slice (some ⟨B, o, none⟩) m cap) n xs) {j : Nat} (hj : xs[j]? = some u) (hn : 0 < n) : w.cell? ⟨B, o + j, none⟩ = some u := by
  obtain ⟨B', o', e, hc⟩ := Row.cell h hj hn
  cases e; exact hc

/-- A part of a row. -/
theorem Row.sub {w : World} {size n cap : Nat} {a : Option Addr} {xs : List Value} (h : Row w size (.slice a n cap) n xs) (i j : Nat) (hij : i ≤ j) (hj : j ≤ n) (c : Nat) (hc : j - i ≤ c) (hcc : c ≤ cap - i) : Row w size (.slice (if cap = i then a else a.map (·.add (i * size))) (j - i) c) (j - i) ((xs.take (j * size)).drop (i * size)) := by
  obtain ⟨hl, a', cap', hv, hcp, hm, hnil, hspot, hcell⟩ := h
  simp only [Value.slice.injEq] at hv
  obtain ⟨rfl, -, rfl⟩ := hv
  refine ⟨?_, _, _, rfl, hc, by omega, fun he => ?_, fun p hp h0 => ?_, fun k u hk => ?_⟩
  · rw [List.length_drop, List.length_take, hl, Nat.sub_mul, Nat.min_eq_left (Nat.mul_le_mul_right _ hj)]
  · split at he
    · have := hnil he; omega
    · cases a with
      | none => have := hnil rfl; omega
      | some p => simp at he
  · split at hp
    · exact hspot p hp (by omega)
    · cases a with
      | none => simp at hp
      | some p' =>
        simp at hp
        rw [← hp]
        unfold Addr.add
        split
        · exact hspot p' rfl (by omega)
        · rfl
  · rw [List.getElem?_drop, List.getElem?_take] at hk
    split at hk
    · rename_i hlt
      obtain ⟨p, hp, hcl⟩ := hcell _ _ hk
      have hne : ¬ cap = i := by
        intro he
        have : j = i := by omega
        subst this
        omega
      rw [if_neg hne, hp]
      refine ⟨p.add (i * size), rfl, ?_⟩
      have hps := hspot p hp (by omega)
      obtain ⟨pb, po, ps⟩ := p
      simp only at hps
      subst hps
      by_cases h0 : i * size = 0
      · simp only [Addr.add, h0, if_true]
        rw [h0, Nat.zero_add] at hcl
        exact hcl
      · simp only [Addr.add, h0, if_false]
        rw [Nat.add_assoc]; exact hcl
    · cases hk

/-! Values, constraints, predicates, attributes -/
def vC (v : V) : List Value := [.int .i64 v.k, .int .i64 v.n, .string (strOf v.s), .bool v.b]
theorem vC_len (v : V) : (vC v).length = 4 := rfl
def SetR (W : World) (h : Value) (l : List V) : Prop := Row W 4 h l.length (l.flatMap vC)
theorem SetR.ext {W W' : World} {h : Value} {l : List V} (k : SetR W h l) (hx : Ext W W') : SetR W' h l := Row.ext k hx
theorem SetR.nil (W : World) : SetR W (.slice none 0 0) [] := Row.nil W 4
theorem SetR.at {W : World} {a : Option Addr} {n cap : Nat} {l : List V} (h : SetR W (.slice a n cap) l) {k : Nat} (hk : k < l.length) :
    ∃ B o, a = some ⟨B, o, none⟩ ∧ W.cell? ⟨B, o + k * 4, none⟩ = some (.int .i64 l[k].k) ∧ W.cell? ⟨B, o + k * 4 + 1, none⟩ = some (.int .i64 l[k].n) ∧ W.cell? ⟨B, o + k * 4 + 2, none⟩ = some (.string (strOf l[k].s)) ∧ W.cell? ⟨B, o + k * 4 + 3, none⟩ = some (.bool l[k].b) := by
  obtain ⟨B, o, rfl⟩ := Row.base h (by omega) (by decide)
  have g := fun j hj => flat_get vC 4 vC_len l k hk j hj
  exact ⟨B, o, rfl, Row.cellAt h (g 0 (by decide)) (by omega), Row.cellAt h (g 1 (by decide)) (by omega), Row.cellAt h (g 2 (by decide)) (by omega), Row.cellAt h (g 3 (by decide)) (by omega)⟩

/-- A constraint where it stands: its set's slice. -/
structure CS where
  c : C
  h : Value
def csC (x : CS) : List Value := [.string (strOf x.c.name), .int .i64 x.c.op, .int .i64 x.c.v.k, .int .i64 x.c.v.n, .string (strOf x.c.v.s), .bool x.c.v.b, x.h]
theorem csC_len (x : CS) : (csC x).length = 7 := rfl
def PredR (W : World) (v : Value) (p : List C) : Prop := ∃ us : List CS, us.map CS.c = p ∧ Row W 7 v us.length (us.flatMap csC) ∧ ∀ x ∈ us, SetR W x.h x.c.set
theorem PredR.ext {W W' : World} {v : Value} {p : List C} (h : PredR W v p) (hx : Ext W W') : PredR W' v p := by
  obtain ⟨us, h1, h2, h3⟩ := h
  exact ⟨us, h1, h2.ext hx, fun x hm => (h3 x hm).ext hx⟩
theorem PredR.nil (W : World) : PredR W (.slice none 0 0) [] := ⟨[], rfl, Row.nil W 7, fun _ h => by cases h⟩
theorem PredR.shape {W : World} {v : Value} {p : List C} (h : PredR W v p) : ∃ a cap, v = .slice a p.length cap ∧ p.length ≤ cap ∧ cap ≤ maxLen := by
  obtain ⟨us, rfl, h2, _⟩ := h
  obtain ⟨a, cap, e, h3, h4⟩ := Row.shape h2
  exact ⟨a, cap, by rw [e, List.length_map], by rw [List.length_map]; exact h3, h4⟩
theorem PredR.at {W : World} {a : Option Addr} {n cap : Nat} {p : List C} (h : PredR W (.slice a n cap) p) {k : Nat} (hk : k < p.length) :
    ∃ B o sa sc, a = some ⟨B, o, none⟩ ∧ W.cell? ⟨B, o + k * 7, none⟩ = some (.string (strOf p[k].name)) ∧ W.cell? ⟨B, o + k * 7 + 1, none⟩ = some (.int .i64 p[k].op) ∧ W.cell? ⟨B, o + k * 7 + 2, none⟩ = some (.int .i64 p[k].v.k) ∧ W.cell? ⟨B, o + k * 7 + 3, none⟩ = some (.int .i64 p[k].v.n) ∧
      W.cell? ⟨B, o + k * 7 + 4, none⟩ = some (.string (strOf p[k].v.s)) ∧ W.cell? ⟨B, o + k * 7 + 5, none⟩ = some (.bool p[k].v.b) ∧ W.cell? ⟨B, o + k * 7 + 6, none⟩ = some (.slice sa p[k].set.length sc) ∧ SetR W (.slice sa p[k].set.length sc) p[k].set := by
  obtain ⟨us, rfl, h2, h3⟩ := h
  have hk' : k < us.length := by simpa using hk
  obtain ⟨B, o, rfl⟩ := Row.base h2 (by omega) (by decide)
  have g := fun j hj => flat_get csC 7 csC_len us k hk' j hj
  have e : (us.map CS.c)[k] = us[k].c := by simp
  have hs := h3 us[k] (List.getElem_mem hk')
  obtain ⟨sa, sc, es, _, _⟩ := Row.shape hs
  rw [e]
  have g6 := Row.cellAt h2 (g 6 (by decide)) (by omega)
  rw [es] at hs
  refine ⟨B, o, sa, sc, rfl, Row.cellAt h2 (g 0 (by decide)) (by omega), Row.cellAt h2 (g 1 (by decide)) (by omega), Row.cellAt h2 (g 2 (by decide)) (by omega), Row.cellAt h2 (g 3 (by decide)) (by omega), Row.cellAt h2 (g 4 (by decide)) (by omega), Row.cellAt h2 (g 5 (by decide)) (by omega), ?_, hs⟩
  rw [← es]; exact g6
theorem PredR.mk {W : World} {v : Value} (us : List CS) (h : Row W 7 v us.length (us.flatMap csC)) (hs : ∀ x ∈ us, SetR W x.h x.c.set) : PredR W v (us.map CS.c) := ⟨us, rfl, h, hs⟩

def aC (x : List UInt8 × V) : List Value := [.string (strOf x.1), .int .i64 x.2.k, .int .i64 x.2.n, .string (strOf x.2.s), .bool x.2.b]
theorem aC_len (x : List UInt8 × V) : (aC x).length = 5 := rfl
def AttrR (W : World) (v : Value) (l : List (List UInt8 × V)) : Prop := Row W 5 v l.length (l.flatMap aC)
theorem AttrR.ext {W W' : World} {v : Value} {l : List (List UInt8 × V)} (h : AttrR W v l) (hx : Ext W W') : AttrR W' v l := Row.ext h hx
theorem AttrR.nil (W : World) : AttrR W (.slice none 0 0) [] := Row.nil W 5
theorem AttrR.at {W : World} {a : Option Addr} {n cap : Nat} {l : List (List UInt8 × V)} (h : AttrR W (.slice a n cap) l) {k : Nat} (hk : k < l.length) :
    ∃ B o, a = some ⟨B, o, none⟩ ∧ W.cell? ⟨B, o + k * 5, none⟩ = some (.string (strOf l[k].1)) ∧ W.cell? ⟨B, o + k * 5 + 1, none⟩ = some (.int .i64 l[k].2.k) ∧ W.cell? ⟨B, o + k * 5 + 2, none⟩ = some (.int .i64 l[k].2.n) ∧ W.cell? ⟨B, o + k * 5 + 3, none⟩ = some (.string (strOf l[k].2.s)) ∧ W.cell? ⟨B, o + k * 5 + 4, none⟩ = some (.bool l[k].2.b) := by
  obtain ⟨B, o, rfl⟩ := Row.base h (by omega) (by decide)
  have g := fun j hj => flat_get aC 5 aC_len l k hk j hj
  exact ⟨B, o, rfl, Row.cellAt h (g 0 (by decide)) (by omega), Row.cellAt h (g 1 (by decide)) (by omega), Row.cellAt h (g 2 (by decide)) (by omega), Row.cellAt h (g 3 (by decide)) (by omega), Row.cellAt h (g 4 (by decide)) (by omega)⟩

end Go.Proofs.YtcgflkfbjnpdiaaGreat

namespace Go.Proofs
open Go.Shelf
def Tryz.lays190_ren : Go.Shelf.Ren := ⟨fun | 190 => 77 | 125 => 56 | 258 => 108 | 128 => 99 | 129 => 100 | 302 => 147 | 303 => 148 | 304 => 149 | 305 => 150 | 306 => 151 | 307 => 152 | 308 => 153 | 309 => 154 | 310 => 155 | 333 => 164 | 329 => 120 | 330 => 121 | 334 => 165 | 335 => 166 | 336 => 167 | 344 => 170 | n => n, fun | 31 => 63 | 9 => 9 | 3 => 3 | 46 => 84 | 0 => 0 | 51 => 123 | 53 => 107 | 4 => 4 | 183 => 116 | 182 => 115 | 131 => 120 | 5 => 5 | 218 => 145 | 222 => 149 | 228 => 167 | 229 => 168 | n => n, fun | n => n⟩
theorem Tryz.lays190 : Go.Proofs.Lays.n190 Tryz.prog Tryz.lays190_ren := {
  mixed := by kernel_rfl
  f125 := Tryz.func56.trans (congrArg some (by kernel_rfl))
  f128 := Tryz.func99.trans (congrArg some (by kernel_rfl))
  f129 := Tryz.func100.trans (congrArg some (by kernel_rfl))
  f190 := Tryz.func77.trans (congrArg some (by kernel_rfl))
  f258 := Tryz.func108.trans (congrArg some (by kernel_rfl))
  f302 := Tryz.func147.trans (congrArg some (by kernel_rfl))
  f303 := Tryz.func148.trans (congrArg some (by kernel_rfl))
  f304 := Tryz.func149.trans (congrArg some (by kernel_rfl))
  f305 := Tryz.func150.trans (congrArg some (by kernel_rfl))
  f306 := Tryz.func151.trans (congrArg some (by kernel_rfl))
  f307 := Tryz.func152.trans (congrArg some (by kernel_rfl))
  f308 := Tryz.func153.trans (congrArg some (by kernel_rfl))
  f309 := Tryz.func154.trans (congrArg some (by kernel_rfl))
  f310 := Tryz.func155.trans (congrArg some (by kernel_rfl))
  f329 := Tryz.func120.trans (congrArg some (by kernel_rfl))
  f330 := Tryz.func121.trans (congrArg some (by kernel_rfl))
  f333 := Tryz.func164.trans (congrArg some (by kernel_rfl))
  f334 := Tryz.func165.trans (congrArg some (by kernel_rfl))
  f335 := Tryz.func166.trans (congrArg some (by kernel_rfl))
  f336 := Tryz.func167.trans (congrArg some (by kernel_rfl))
  f344 := Tryz.func170.trans (congrArg some (by kernel_rfl))
  t0 := Tryz.underlying0
  a0 := Tryz.isAgg0
  z0 := Tryz.sizeOf0
  v0 := Tryz.zeroValue0
  t3 := Tryz.underlying3
  a3 := Tryz.isAgg3
  z3 := Tryz.sizeOf3
  v3 := Tryz.zeroValue3
  t4 := Tryz.underlying4
  a4 := Tryz.isAgg4
  z4 := Tryz.sizeOf4
  v4 := Tryz.zeroValue4
  t5 := Tryz.underlying5
  a5 := Tryz.isAgg5
  z5 := Tryz.sizeOf5
  v5 := Tryz.zeroValue5
  t9 := Tryz.underlying9
  a9 := Tryz.isAgg9
  z9 := Tryz.sizeOf9
  v9 := Tryz.zeroValue9
  t31 := Tryz.underlying63
  a31 := Tryz.isAgg63
  z31 := Tryz.sizeOf63
  v31 := Tryz.zeroValue63
  t46 := Tryz.underlying84
  a46 := Tryz.isAgg84
  z46 := Tryz.sizeOf84
  v46 := Tryz.zeroValue84
  t51 := Tryz.underlying123
  a51 := Tryz.isAgg123
  z51 := Tryz.sizeOf123
  v51 := Tryz.zeroValue123
  t53 := Tryz.underlying107
  a53 := Tryz.isAgg107
  z53 := Tryz.sizeOf107
  v53 := Tryz.zeroValue107
  t131 := Tryz.underlying120
  a131 := Tryz.isAgg120
  z131 := Tryz.sizeOf120
  v131 := Tryz.zeroValue120
  t182 := Tryz.underlying115
  a182 := Tryz.isAgg115
  z182 := Tryz.sizeOf115
  v182 := Tryz.zeroValue115
  t183 := Tryz.underlying116
  a183 := Tryz.isAgg116
  z183 := Tryz.sizeOf116
  v183 := Tryz.zeroValue116
  t218 := Tryz.underlying145
  a218 := Tryz.isAgg145
  z218 := Tryz.sizeOf145
  v218 := Tryz.zeroValue145
  t222 := Tryz.underlying149
  a222 := Tryz.isAgg149
  z222 := Tryz.sizeOf149
  v222 := Tryz.zeroValue149
  t228 := Tryz.underlying167
  a228 := Tryz.isAgg167
  z228 := Tryz.sizeOf167
  v228 := Tryz.zeroValue167
  t229 := Tryz.underlying168
  a229 := Tryz.isAgg168
  z229 := Tryz.sizeOf168
  v229 := Tryz.zeroValue168 }
open Go.Sort Go.RowKit in
theorem Tryz.slices_Sort_string (blk off cap : Nat) (ss : List (List UInt8)) (w : World) (hH : Holds encStr w blk off ss.toArray) (hblk : blk < w.heap.size) (hsz : ss.length < 4611686018427387904) :
    Calls Tryz.prog 77 #[.slice (some ⟨blk, off, none⟩) ss.length cap] w fun e w' =>
      e = .returned (.tuple #[]) ∧ ∃ n os, w' = grow (putRow encStr (Sort.ahead w n) blk off (ss.mergeSort fun x y => decide (x ≤ y)).toArray) os := Any.slices_Sort_string Tryz.lays190 blk off cap ss w hH hblk hsz
open Go.RowKit Go.Sort in
theorem Tryz.slices_Sort_string_none (p : Option Addr) (cap : Nat) (w : World) :
    Calls Tryz.prog 77 #[.slice p 0 cap] w fun e w' => e = .returned (.tuple #[]) ∧ w' = w := Any.slices_Sort_string_none Tryz.lays190 p cap w
end Go.Proofs

namespace Go.Proofs.YtcgflkfbjnpdiaaGreat
open Go.RowKit Go.Sort

theorem flatK_eq {α : Type} [Inhabited α] (enc : α → List Value) (k : Nat) (hk0 : 0 < k) (hk : ∀ x, (enc x).length = k) (l : List α) : flatK enc k l.toArray = (l.flatMap enc).toArray := by
  have hl := flat_len enc k hk l
  apply Array.ext
  · simp only [size_flatK, List.size_toArray, hl]
  · intro t h1 h2
    have h1' : t < l.length * k := by simpa using h1
    have hd : t / k < l.length := by rw [Nat.div_lt_iff_lt_mul hk0]; exact h1'
    have hm : t % k < k := Nat.mod_lt _ hk0
    have hg := flat_get enc k hk l (t / k) hd (t % k) hm
    have e : t / k * k + t % k = t := by rw [Nat.mul_comm]; exact Nat.div_add_mod t k
    rw [e] at hg
    have hf := get_flatK enc k l.toArray t (by simpa using h1')
    rw [getElem!_pos _ t h1] at hf
    rw [hf]
    have hx : (l.toArray)[t / k]! = l[t / k] := by rw [getElem!_pos _ _ (by simpa using hd)]; simp
    rw [hx]
    have h2' : t < (l.flatMap enc).length := by rw [hl]; exact h1'
    rw [List.getElem?_eq_getElem h2', List.getElem?_eq_getElem (by rw [hk]; exact hm)] at hg
    rw [getElem!_pos _ _ (by rw [hk]; exact hm)]
    have := Option.some.inj hg
    simp only [List.getElem_toArray]
    exact this.symm

theorem own_holds {w : World} {base g n cap size : Nat} {e : TypeId} {xs : List Value} (h : w.ownsRow base e size (.slice (some ⟨g, 0, none⟩) n cap) n xs) :
    ∃ cur, w.heap[g]? = some (.cells cur e (0, 0)) ∧ base ≤ g ∧ n ≤ cap ∧ cap ≤ maxLen ∧ cur.size = cap * size ∧ g < w.heap.size ∧ Holds id w g 0 xs.toArray := by
  obtain ⟨hl, h | ⟨g', cap', cur, e0, hb, hg, hn, hm, hs, ht⟩⟩ := h
  · cases h.1
  · injection e0 with e1 _ e3
    injection e1 with e1
    injection e1 with e1
    subst e1; subst e3
    refine ⟨cur, hg, hb, hn, hm, hs, (Array.getElem?_eq_some_iff.1 hg).1, fun j hj => ?_⟩
    have hj' : j < xs.length := by simpa using hj
    refine ⟨?_, by simp [World.frozen?, hg]⟩
    have e2 : (cur.toList.take (n * size))[j]? = xs[j]? := by rw [ht]
    rw [List.getElem?_take, if_pos (by omega), Array.getElem?_toList, List.getElem?_eq_getElem hj'] at e2
    simp only [World.cell?, hg, Nat.zero_add]
    simp only [Option.isSome_none, Bool.false_eq_true, if_false]
    rw [e2]
    simp [getElem!_pos, hj']

theorem grownBy_row {w : World} {g n : Nat} {os : Array Obj} (d : Array Value) : w.grownBy (grow (putRow id (Sort.ahead w n) g 0 d) os) (some g) := by
  refine ⟨rfl, rfl, rfl, by simp, fun k hk hne => ?_⟩
  rw [heap_grow_old _ _ (by simpa using hk)]
  have : g ≠ k := fun e => hne (by rw [e])
  simp [putRow, mapBlock, Sort.ahead, Array.getElem?_modify, this]

theorem take_put (cur : Array Value) (ts : List Value) (h : ts.length ≤ cur.size) : (putCells id 0 ts.toArray cur).toList.take ts.length = ts := by
  apply List.ext_getElem?
  intro j
  by_cases hj : j < ts.length
  · rw [List.getElem?_take_of_lt hj, Array.getElem?_toList]
    simp [putCells, hj, show j < cur.size by omega]
  · rw [List.getElem?_take_eq_none (by omega), List.getElem?_eq_none (by omega)]

theorem own_put {w : World} {base g n cap size m : Nat} {e : TypeId} {os : Array Obj} {xs ys : List Value} (h : w.ownsRow base e size (.slice (some ⟨g, 0, none⟩) n cap) n xs) (hy : ys.length = xs.length) :
    (grow (putRow id (Sort.ahead w m) g 0 ys.toArray) os).ownsRow base e size (.slice (some ⟨g, 0, none⟩) n cap) n ys := by
  have hl := h.1
  obtain ⟨cur, hg, hb, hn, hm, hs, hlt, _⟩ := own_holds h
  refine ⟨by omega, .inr ⟨g, cap, putCells id 0 ys.toArray cur, rfl, hb, ?_, hn, hm, by simp [putCells, hs], ?_⟩⟩
  · rw [heap_grow_old _ _ (by simpa using hlt)]
    simp [putRow, mapBlock, Sort.ahead, Array.getElem?_modify, hg, onCells]
  · rw [← hl, ← hy]
    have : n * size ≤ cap * size := Nat.mul_le_mul_right _ hn
    exact take_put cur ys (by omega)

/-- The sort, over any two structs' order: what stands behind it. -/
theorem own_sorted {α : Type} [Inhabited α] {w : World} {base g n cap k m : Nat} {e : TypeId} {os : Array Obj} (enc : α → List Value) (hk0 : 0 < k) (hk : ∀ x, (enc x).length = k) {l l' : List α}
    (h : w.ownsRow base e k (.slice (some ⟨g, 0, none⟩) n cap) n (l.flatMap enc)) (hll : l'.length = l.length) :
    (sortWorldK enc k w g 0 m l'.toArray os).ownsRow base e k (.slice (some ⟨g, 0, none⟩) n cap) n (l'.flatMap enc) ∧ w.grownBy (sortWorldK enc k w g 0 m l'.toArray os) (some g) := by
  unfold sortWorldK putRowK
  rw [flatK_eq enc k hk0 hk]
  exact ⟨own_put h (by rw [flat_len enc k hk, flat_len enc k hk, hll]), grownBy_row _⟩
theorem own_holdsK {α : Type} [Inhabited α] {w : World} {base g n cap k : Nat} {e : TypeId} (enc : α → List Value) (hk0 : 0 < k) (hk : ∀ x, (enc x).length = k) {l : List α}
    (h : w.ownsRow base e k (.slice (some ⟨g, 0, none⟩) n cap) n (l.flatMap enc)) : HoldsK enc k w g 0 l.toArray := by
  unfold HoldsK
  rw [flatK_eq enc k hk0 hk]
  obtain ⟨_, _, _, _, _, _, _, hH⟩ := own_holds h
  exact hH
/-- A list sorted by an order, in the sort's words and in mine. -/
theorem sorted_list {α : Type} [Inhabited α] {cf : α → α → Int} {l : List α} {d' : Array α} (hp : PermIn 0 l.toArray.size l.toArray d') (hs : SortedIn (ltOf cf) 0 l.toArray.size d') (hanti : ∀ a b, cf b a = - cf a b) :
    d'.toList.Perm l ∧ d'.toList.Pairwise fun a b => cf a b ≤ 0 := by
  have hsz : d'.size = l.length := by simpa using hp.1
  have h1 := hp.2.2
  have e1 : d'.extract 0 l.toArray.size = d' := by rw [List.size_toArray, ← hsz, Array.extract_size]
  have e2 : l.toArray.extract 0 l.toArray.size = l.toArray := by rw [Array.extract_size]
  rw [e1, e2] at h1
  refine ⟨h1, List.pairwise_iff_getElem.2 fun i j hi hj hij => ?_⟩
  have hj' : j < d'.size := by simpa using hj
  have hi' : i < d'.size := by simpa using hi
  have h2 := hs i j (Nat.zero_le _) hij (by simp; omega)
  rw [getElem!_pos d' j hj', getElem!_pos d' i hi'] at h2
  unfold ltOf at h2
  have h3 := of_decide_eq_false h2
  have h4 := hanti d'[i] d'[j]
  simp only [Array.getElem_toList]
  omega
end Go.Proofs.YtcgflkfbjnpdiaaGreat
