/- breakPatternsOrdered at uint64 (55), the xorshift's step (74), nextPowerOfTwo (73). -/
import Derived.Test.YtlgopjfnknjgjaaU11
import Derived.Test.YtlgopjfnknjgjaaY2
import Derived.Laws.BitsAllLaws
namespace Go.Proofs.Ytlgopjfnknjgjaa
open Go.RowKit

/-- The box of 'random'. -/
def XB (s : Nat) (w : World) (n : Nat) : Prop := w.heap[s]? = some (.cells #[.int .u64 n] 125 (0, 0))
theorem xb_set {s : Nat} {w : World} {n : Nat} (h : XB s w n) (m : Nat) : XB s (w.setCell ⟨s, 0, none⟩ (.int .u64 m)) m ∧ w.grownBy (w.setCell ⟨s, 0, none⟩ (.int .u64 m)) (some s) := by
  refine ⟨?_, ⟨rfl, rfl, rfl, by simp, fun k hk hne => setCell_block_far w ⟨s, 0, none⟩ _ k (fun e => hne (by rw [e]))⟩⟩
  unfold XB
  show (w.heap.modify s _)[s]? = _
  rw [Array.getElem?_modify, if_pos rfl]
  unfold XB at h
  rw [h]
  rfl
theorem XB.ext {s : Nat} {w w' : World} {n : Nat} (h : XB s w n) (hx : Ext w w') : XB s w' n := (hx.block s (Array.getElem?_eq_some_iff.1 h).1).trans h
theorem XB.cell {s : Nat} {w : World} {n : Nat} (h : XB s w n) : w.cell? ⟨s, 0, none⟩ = some (.int .u64 n) := cell_of_row _ _ 0 _ _ _ h
theorem XB.free {s : Nat} {w : World} {n : Nat} (h : XB s w n) : w.frozen? ⟨s, 0, none⟩ = false := frozen_of_row _ _ _ _ _ h
theorem UO.keptX {base g cap s : Nat} {w w' : World} {d : Array Nat} {n : Nat} (h : UO base g cap w d) (hs : XB s w n) (hg : w.grownBy w' (some s)) : UO base g cap w' d :=
  own_keep h hg (fun k hk e => by cases hk; cases e; exact own_ne h hs (by decide) rfl)

theorem xor_any (n : Nat) (hn : n < 18446744073709551616) (X : Int) (h0 : 0 ≤ X) (h1 : X < 18446744073709551616) : ∃ m : Nat, m < 18446744073709551616 ∧ bits .xor .u64 (n : Int) X = (m : Int) := by
  obtain ⟨x, rfl⟩ : ∃ x : Nat, X = (x : Int) := ⟨X.toNat, by omega⟩
  refine ⟨n ^^^ x, ?_, u64_xor_nat _ _ hn (by omega)⟩
  exact Nat.xor_lt_two_pow (n := 64) hn (by omega)
theorem wrap_bd (x : Int) : 0 ≤ IntKind.u64.wrap x ∧ IntKind.u64.wrap x < 18446744073709551616 := by
  simp [IntKind.wrap, IntKind.bits, IntKind.signed]; omega
/-- What a step of it leaves. -/
def NextQ (s : Nat) (w : World) (e : Ending) (w' : World) : Prop := ∃ m : Nat, m < 18446744073709551616 ∧ e = .returned (.int .u64 m) ∧ XB s w' m ∧ w.grownBy w' (some s)

set_option maxRecDepth 100000 in
set_option maxHeartbeats 8000000 in
theorem next_any (s n : Nat) (w : World) (hs : XB s w n) (hn : n < 18446744073709551616) :
    Calls Try.prog 74 #[.pointer (some ⟨s, 0, none⟩)] w (NextQ s w) := by
  have c0 := hs.cell
  have f0 := hs.free
  have HS := Lib.hid hs
  have HNN := Lib.hid hn
  clear hs hn
  go_enter Try.func74, Try.ntmps74
  go_upto_region 1 with fail
  go_region
  obtain ⟨m1, hm1, e1⟩ := xor_any n HNN.out _ (wrap_bd ((n : Int) * 8192)).1 (wrap_bd _).2
  simp only [e1]
  have h1 := xb_set HS.out m1
  have HS1 := Lib.hid (h1.1.ext (Ext.refl _).drew)
  have HG1 := Lib.hid (grown_trans h1.2 (grown_of_ext (Ext.refl _).drew))
  have HM1 := Lib.hid hm1
  clear h1 hm1 e1 c0 f0
  generalize World.drew _ = w1 at *
  have c0 := HS1.out.cell
  have f0 := HS1.out.free
  go_upto_region 2 with fail
  go_region
  obtain ⟨m2, hm2, e2⟩ := xor_any m1 HM1.out ((m1 : Int) / 128) (by omega) (by have := HM1.out; omega)
  simp only [e2]
  have h1 := xb_set HS1.out m2
  have HS2 := Lib.hid (h1.1.ext (Ext.refl _).drew)
  have HG2 := Lib.hid (grown_trans h1.2 (grown_of_ext (Ext.refl _).drew))
  have HM2 := Lib.hid hm2
  clear h1 hm2 e2 c0 f0
  generalize World.drew _ = w2 at *
  have c0 := HS2.out.cell
  have f0 := HS2.out.free
  go_upto_region 3 with fail
  go_region
  obtain ⟨m3, hm3, e3⟩ := xor_any m2 HM2.out _ (wrap_bd ((m2 : Int) * 131072)).1 (wrap_bd _).2
  simp only [e3]
  have h1 := xb_set HS2.out m3
  have HS3 := Lib.hid (h1.1.ext (Ext.refl _).drew)
  have HG3 := Lib.hid (grown_trans h1.2 (grown_of_ext (Ext.refl _).drew))
  have HM3 := Lib.hid hm3
  clear h1 hm3 e3 c0 f0
  generalize World.drew _ = w3 at *
  have c0 := HS3.out.cell
  go_wp2_with fail
  go_ret
  exact ⟨m3, HM3.out, rfl, HS3.out, grown_trans (grown_trans HG1.out HG2.out) HG3.out⟩
end Go.Proofs.Ytlgopjfnknjgjaa
