/- FramePuts, walked: whatever bytes it is handed it answers true and writes nothing that was there. -/
import Derived.Test.YtanlhpmebpebgaaW9
namespace Go.Proofs.Ytanlhpmebpebgaa
open Go.RowKit

set_option maxHeartbeats 1000000 in
theorem framePuts_any (w : World) (v0 : Value) (l : List UInt8) (h0 : Bytes w v0 l) (hn : l.length ≤ 140737488351232) :
    Calls Try.prog 10 #[v0] w fun e w' => e = .returned (.bool true) ∧ Ext w w' := by
  go_enter Try.func10, Try.ntmps10
  go_wp2_with (at_builtin; refine appB (.const (.slice none 0 0)) (.tmp 10) rfl rfl w.heap.size (OwnB.nil _ _) h0 (by simp; omega) (Nat.le_refl _) ?_; intro v2 w2 ho2 hg2; rw [List.nil_append] at ho2; have hx2 : Ext w w2 := (Ext.refl w).mono_grown (OwnB.nil w w.heap.size) (Nat.le_refl _) hg2; clear hg2)
  have k0 := h0.ext hx2; have k2 := ho2.bytes
  clear ho2 h0
  refine (fput_any _ _ _ k2).mono ?_
  rintro e w3 ⟨x, rfl, hox, hx3⟩
  go_wp2_with fail
  refine (rput_any _ _ _ (k0.ext hx3)).mono ?_
  rintro e w4 ⟨y, rfl, hoy, hx4⟩
  have hx5 := hx3.trans hx4
  have j0 := k0.ext hx5; have j2 := k2.ext hx5
  have kx := hox.ext hx4; have ky := hoy.bytes
  have hb := beq_l (putR l).1
  have kxb := kx.bytes
  go_wp2_with (first | (refine strB (.tmp 22) rfl rfl kxb ?_) | (refine strB (.tmp 24) rfl rfl ky ?_))
  refine (size_any _ _ _ j2).mono ?_
  rintro e w5 ⟨rfl, rfl⟩
  go_wp2_with fail
  refine (ref_size _ _ _ j0).mono ?_
  rintro e w6 ⟨rfl, rfl⟩
  replace kx := kx.mut
  obtain ⟨ax, cx, rfl, hx8, hx9⟩ := kx.shape
  unfold maxLen at hx9
  clear hb kxb ky hoy hox
  generalize (putR l).1.length = m at kx hx8 ⊢
  go_wp2_with fail
  go_loopw [9] (fun i wr => ∃ k : Nat, k ≤ m ∧ i = .int .i64 k ∧ Mut wr w2.heap.size (.slice ax m cx) m ∧ Ext w2 wr) (fun i _ => m - (intOf i).toNat)
  case atStart => exact ⟨0, Nat.zero_le _, rfl, kx, hx5⟩
  case round =>
    clear kx hx5
    obtain ⟨k, hk, rfl, kx, hY⟩ := hrel
    by_cases hlt : k < m
    · obtain ⟨g', c, rfl, hg5, hcell, hfr, hset⟩ := kx.get hlt
      have hfl := Lib.hid (flip_val c)
      have hb := byte_lt c
      go_wp2_with fail
      rw [hfl.out]
      go_roundw
      case rel => exact ⟨k + 1, by omega, by go_num, hset _, hY.setCell hg5 _⟩
      case measure => simp [intOf]; omega
    · replace k0 := k0.ext hY; replace k2 := k2.ext hY
      have hZ := hx2.trans hY
      have hb := beq_l l
      clear kx hY
      go_wp2_with (first | (refine strB (.tmp 53) rfl rfl k2 ?_) | (refine strB (.tmp 55) rfl rfl k0 ?_))
      refine (wakes11_any _).mono ?_
      rintro e w8 ⟨rfl, hx8⟩
      go_wp2_with fail
      go_ret
      exact ⟨rfl, hZ.trans hx8⟩

end Go.Proofs.Ytanlhpmebpebgaa
