/- CrcSums, walked: whatever bytes and sum it is handed it answers true and writes nothing that was there. -/
import Derived.Test.YtanlhpmebpebgaaW2
namespace Go.Proofs.Ytanlhpmebpebgaa
open Go.RowKit

theorem beq_l (l : List UInt8) : (l == l) = true := by simp

set_option maxHeartbeats 400000 in
theorem crcSums_any (w : World) (v : Value) (l : List UInt8) (s : Nat) (hl : Bytes w v l) (hn : l.length ≤ 140737488351232) (hs : s < 4294967296) :
    Calls Try.prog 3 #[v, .int .u32 s] w fun e w' => e = .returned (.bool true) ∧ Ext w w' := by
  go_enter Try.func3, Try.ntmps3
  go_wp2_with (at_builtin; refine appB (.const (.slice none 0 0)) (.tmp 6) rfl rfl w.heap.size (OwnB.nil _ _) hl (by simp; omega) (Nat.le_refl _) ?_; intro v1 w1 ho1 hg1; rw [List.nil_append] at ho1)
  have hx1 : Ext w w1 := (Ext.refl w).mono_grown (OwnB.nil w w.heap.size) (Nat.le_refl _) hg1
  have hm1 := ho1.bytes
  have hl1 := hl.ext hx1
  clear hg1 ho1
  refine (sum_any _ _ _ hm1).mono ?_
  rintro e w2 ⟨rfl, hx2⟩
  have hm2 := hm1.ext hx2; have hl2 := hl1.ext hx2; have hx := hx1.trans hx2
  clear hm1 hl1 hx1 hx2
  go_wp2_with fail
  refine (ref_sum _ _ _ hl2).mono ?_
  rintro e w2 ⟨rfl, rfl⟩
  go_wp2_with fail
  refine (extend_any _ _ _ _ hm2 hs).mono ?_
  rintro e w3 ⟨rfl, hx3⟩
  have hm3 := hm2.ext hx3; have hl3 := hl2.ext hx3; have hx4 := hx.trans hx3
  clear hm2 hl2 hx hx3
  go_wp2_with fail
  refine (ref_extend _ _ _ _ hl3 hs).mono ?_
  rintro e w3 ⟨rfl, rfl⟩
  have hb := beq_l l
  go_wp2_with (first | (refine strB (.tmp 23) rfl rfl hm3 ?_) | (refine strB (.tmp 25) rfl rfl hl3 ?_))
  refine (wakes_any _).mono ?_
  rintro e w5 ⟨rfl, hx5⟩
  go_wp2_with fail
  go_ret
  exact ⟨rfl, hx4.trans hx5⟩

end Go.Proofs.Ytanlhpmebpebgaa
