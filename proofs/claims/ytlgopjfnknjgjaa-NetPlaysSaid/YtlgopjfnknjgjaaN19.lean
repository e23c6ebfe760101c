/- The document's net in memory, New of it (28). -/
import Derived.Test.YtlgopjfnknjgjaaN3
namespace Go.Proofs.Ytlgopjfnknjgjaa
open Go.RowKit Go.MapKept

def pC (x : PK) : List Value := [.int .u64 x.id, .int .i64 x.fr, .int .i64 x.dst, x.h]
theorem pC_len (x : PK) : (pC x).length = 4 := rfl
/-- The document's net: in block rb, its packets in a row of its own, their bytes in rows of their own. -/
structure RefR (w : World) (base rb k last : Nat) (lv : Value) (L : List PK) : Prop where
  net : w.heap[rb]? = some (.cells #[.int .i64 k, .int .u64 last, lv] 82 (0, 0))
  row : w.ownsRow base 75 4 lv L.length (L.flatMap pC)
  own : ∀ x ∈ L, OwnB w base x.h x.b
  lo : base ≤ rb
theorem RefR.ext {w w' : World} {base rb k last : Nat} {lv : Value} {L : List PK} (h : RefR w base rb k last lv L) (hx : Ext w w') : RefR w' base rb k last lv L :=
  ⟨block_later h.net hx, own_ext h.row hx, fun x hx' => own_ext (h.own x hx') hx, h.lo⟩
theorem RefR.cell {w : World} {base rb k last : Nat} {lv : Value} {L : List PK} (h : RefR w base rb k last lv L) : w.cell? ⟨rb, 0, none⟩ = some (.int .i64 k) ∧ w.cell? ⟨rb, 1, none⟩ = some (.int .u64 last) ∧ w.cell? ⟨rb, 2, none⟩ = some lv :=
  ⟨cell_of_row _ _ 0 _ _ _ h.net, cell_of_row _ _ 1 _ _ _ h.net, cell_of_row _ _ 2 _ _ _ h.net⟩
set_option maxHeartbeats 1000000 in
theorem rnew_no (w : World) (k : Int) (hk : k < 1 ∨ 64 < k) : Calls Try.prog 28 #[.int .i64 k] w fun e w' => e = .returned (.tuple #[.pointer none, .int .i64 1]) ∧ Ext w w' := by
  rcases Int.lt_or_le k 1 with h | h
  · have h1 : decide (k < 1) = true := decide_eq_true h
    go_enter Try.func28, Try.ntmps28
    go_wp2_with fail
    go_ret2
    exact ⟨rfl, Ext.refl w⟩
  · have h1 : decide (k < 1) = false := decide_eq_false (by omega)
    have h2 : decide (64 < k) = true := decide_eq_true (by omega)
    go_enter Try.func28, Try.ntmps28
    go_wp2_with fail
    go_ret2
    exact ⟨rfl, Ext.refl w⟩
set_option maxHeartbeats 1000000 in
theorem rnew_yes (w : World) (k : Nat) (h1 : 1 ≤ k) (h2 : k ≤ 64) : Calls Try.prog 28 #[.int .i64 k] w fun e w' => e = .returned (.tuple #[.pointer (some ⟨w.heap.size, 0, none⟩), .int .i64 0]) ∧ RefR w' w.heap.size w.heap.size k 0 (.slice none 0 0) [] ∧ Ext w w' := by
  have g1 : decide ((k : Int) < 1) = false := decide_eq_false (by omega)
  have g2 : decide (64 < (k : Int)) = false := decide_eq_false (by omega)
  obtain ⟨hx, hb1⟩ := boxes1 w (.cells #[.int .i64 k, .int .u64 0, .slice none 0 0] 82)
  have HB := Lib.hid hb1
  have HX := Lib.hid hx
  clear hb1 hx
  go_enter Try.func28, Try.ntmps28
  go_wp2_with fail
  go_ret2
  exact ⟨rfl, ⟨HB.out, own_none _ _ _ _, (fun _ h => by cases h), Nat.le_refl _⟩, HX.out⟩
/-- No packet more: the document's net is full. -/
theorem rout_full (w : World) (base rb k last : Nat) (lv : Value) (L : List PK) (h : RefR w base rb k last lv L) (hf : 4096 ≤ L.length) (p q : Int) (vb : Value) : Calls Try.prog 44 #[.pointer (some ⟨rb, 0, none⟩), .int .i64 p, .int .i64 q, vb] w fun e w' => e = .returned (.tuple #[.int .u64 0, .int .i64 7]) ∧ Ext w w' := by
  obtain ⟨c0, c1, c2⟩ := h.cell
  obtain ⟨a, c, rfl, _, _⟩ := own_shape h.row
  have d1 : decide ((4096 : Int) ≤ (L.length : Int)) = true := decide_eq_true (by omega)
  have d2 : decide (4096 ≤ L.length) = true := decide_eq_true hf
  clear h
  go_enter Try.func44, Try.ntmps44
  go_wp2_with fail
  go_ret2
  exact ⟨rfl, Ext.refl w⟩
end Go.Proofs.Ytlgopjfnknjgjaa
