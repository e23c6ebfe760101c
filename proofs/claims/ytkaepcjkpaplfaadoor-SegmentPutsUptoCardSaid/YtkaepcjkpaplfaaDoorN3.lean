/- A reader of bytes, walked: New, Left, keep. -/
import Derived.Test.YtkaepcjkpaplfaaDoorN2
import Derived.Defers
namespace Go.Proofs.YtkaepcjkpaplfaaDoor
open Go.RowKit

/-- At B stands a reader; what is left is l, read in the memory of w0. -/
structure Rd (w0 W : World) (B : Nat) (vl : Value) (l : List UInt8) : Prop where
  at_ : W.heap[B]? = some (.cells #[vl, .bool true] 113 (0, 0))
  bytes : Bytes w0 vl l
  new : w0.heap.size ≤ B
  ext : Ext w0 W

theorem Rd.left {w0 W : World} {B : Nat} {vl : Value} {l : List UInt8} (h : Rd w0 W B vl l) : W.cell? ⟨B, 0, none⟩ = some vl := cell_of_row W B 0 _ _ _ h.at_
theorem Rd.made {w0 W : World} {B : Nat} {vl : Value} {l : List UInt8} (h : Rd w0 W B vl l) : W.cell? ⟨B, 1, none⟩ = some (.bool true) := cell_of_row W B 1 _ _ _ h.at_
theorem Rd.thaw {w0 W : World} {B : Nat} {vl : Value} {l : List UInt8} (h : Rd w0 W B vl l) : W.frozen? ⟨B, 0, none⟩ = false := by simp [World.frozen?, h.at_]
theorem Rd.mono {w0 W W' : World} {B : Nat} {vl : Value} {l : List UInt8} (h : Rd w0 W B vl l) (hx : Ext W W') : Rd w0 W' B vl l :=
  ⟨(hx.block B (Array.getElem?_eq_some_iff.1 h.at_).1).trans h.at_, h.bytes, h.new, h.ext.trans hx⟩
theorem Rd.other {w0 W : World} {B E : Nat} {vl x : Value} {l : List UInt8} (h : Rd w0 W B vl l) (hE : E ≠ B) (hE0 : w0.heap.size ≤ E) : Rd w0 (W.setCell ⟨E, 0, none⟩ x) B vl l :=
  ⟨by rw [Below.heap_setCell _ _ _ _ (by simpa using Ne.symm hE)]; exact h.at_, h.bytes, h.new, h.ext.setCell hE0 _⟩
theorem Rd.set {w0 W : World} {B : Nat} {vl vm : Value} {l m : List UInt8} (h : Rd w0 W B vl l) (hm : Bytes w0 vm m) : Rd w0 (W.setCell ⟨B, 0, none⟩ vm) B vm m :=
  ⟨by rw [heap_setCell_same _ _ _ _ _ _ h.at_]; rfl, hm, h.new, h.ext.setCell h.new _⟩

theorem left_any (w0 w : World) (B : Nat) (vl : Value) (l : List UInt8) (h : Rd w0 w B vl l) :
    Calls Tryd.prog 55 #[.pointer (some ⟨B, 0, none⟩)] w fun e w' => e = .returned (.int .i64 (l.length : Nat)) ∧ w = w' := by
  obtain ⟨a, cap, rfl, hc, hm⟩ := h.bytes.shape
  unfold maxLen at hm
  have hl := h.left
  go_enter Tryd.func55, Tryd.ntmps55
  go_wp2_with fail
  go_ret
  exact ⟨rfl, rfl⟩

theorem new_any (w : World) (v : Value) (l : List UInt8) (hl : Bytes w v l) (hn : l.length ≤ 140737488355328) :
    Calls Tryd.prog 53 #[v] w fun e W => ∃ w0 B vl, e = .returned (.pointer (some ⟨B, 0, none⟩)) ∧ Rd w0 W B vl l ∧ Ext w w0 := by
  obtain ⟨a, cap, rfl, hc, hm⟩ := hl.shape
  unfold maxLen at hm
  go_enter Tryd.func53, Tryd.ntmps53
  go_wp2_with fail
  refine (bclone_any _ _ l hl hn).mono ?_
  rintro e w1 ⟨v1, rfl, ho1, hx1⟩
  obtain ⟨a1, c1, rfl, -, -⟩ := (OwnB.bytes ho1).shape
  go_wp2_with fail
  go_ret
  exact ⟨w1, w1.heap.size, _, rfl, ⟨heap_alloc_new _ _, ho1.bytes, Nat.le_refl _, (Ext.refl w1).alloc _⟩, hx1⟩

theorem keep_deferred (B E : Nat) (aw : Option Addr) (nw cw : Nat) (x : Value) (err : Nat) (u : FrameMode) (w : World) (hE : w.cell? ⟨E, 0, none⟩ = some (.int .i64 err)) (hB : w.cell? ⟨B, 0, none⟩ = some x) (hz : w.frozen? ⟨B, 0, none⟩ = false) :
    CallsD Tryd.prog 65 #[.pointer (some ⟨B, 0, none⟩), .slice aw nw cw, .pointer (some ⟨E, 0, none⟩)] u w fun e u' w' => u' = u ∧ (e = .returned (.tuple #[]) ∧ w' = if err = 0 then w else w.setCell ⟨B, 0, none⟩ (.slice aw nw cw)) := by
  by_cases h0 : err = 0
  · subst h0
    rw [if_pos rfl]
    go_enter_d Tryd.func65, Tryd.ntmps65
    go_wp2_with fail
    exact ⟨rfl, _, results_none rfl _ _ _, rfl, rfl⟩
  · rw [if_neg h0]
    have hd : ((err : Int) != 0) = true := bne_iff_ne.2 (by omega)
    go_enter_d Tryd.func65, Tryd.ntmps65
    go_wp2_with fail
    exact ⟨rfl, _, results_none rfl _ _ _, rfl, rfl⟩

end Go.Proofs.YtkaepcjkpaplfaaDoor
