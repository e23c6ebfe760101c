/- CrcFrames, walked: whatever bytes it is handed it answers true and writes nothing that was there. -/
import Derived.Test.YtanlhpmebpebgaaW2
import Derived.Test.YtanlhpmebpebgaaC3
namespace Go.Proofs.Ytanlhpmebpebgaa
open Go.RowKit

set_option maxHeartbeats 1000000 in
theorem crcFrames_any (w : World) (v0 v1 : Value) (l f : List UInt8) (h0 : Bytes w v0 l) (hn : l.length ≤ 140737488351232) (h1 : Bytes w v1 f) (hm : f.length ≤ 140737488351232) :
    Calls Try.prog 4 #[v0, v1] w fun e w' => e = .returned (.bool true) ∧ Ext w w' := by
  go_enter Try.func4, Try.ntmps4
  go_wp2_with (at_builtin; first | (refine appB (.const (.slice none 0 0)) (.tmp 15) rfl rfl w.heap.size (OwnB.nil _ _) h0 (by simp; omega) (Nat.le_refl _) ?_; intro v2 w2 ho2 hg2; rw [List.nil_append] at ho2; have hx2 : Ext w w2 := (Ext.refl w).mono_grown (OwnB.nil w w.heap.size) (Nat.le_refl _) hg2; clear hg2) | (refine appB (.const (.slice none 0 0)) (.tmp 17) rfl rfl w2.heap.size (OwnB.nil _ _) (h1.ext hx2) (by simp; omega) (Nat.le_refl _) ?_; intro v3 w3 ho3 hg3; rw [List.nil_append] at ho3; have hx3 : Ext w2 w3 := (Ext.refl w2).mono_grown (OwnB.nil w2 w2.heap.size) (Nat.le_refl _) hg3; clear hg3))
  have k0 := h0.ext (hx2.trans hx3); have k1 := h1.ext (hx2.trans hx3); have k2 := ho2.bytes.ext hx3; have k3 := ho3.bytes
  have hx := hx2.trans hx3
  clear ho2 ho3 hx2 hx3 h0 h1
  refine (put_any _ _ _ k2 hn).mono ?_
  rintro e w4 ⟨p, rfl, hp, hx4⟩
  go_wp2_with fail
  refine (take_any _ _ _ (k3.ext hx4) (by omega)).mono ?_
  rintro e w5 ⟨x, rfl, hox, hx5⟩
  go_wp2_with fail
  refine (ref_take _ _ _ (k1.ext (hx4.trans hx5)) hm).mono ?_
  rintro e w6 ⟨y, rfl, hoy, hx6⟩
  have hx7 := hx4.trans (hx5.trans hx6)
  have j0 := k0.ext hx7; have j1 := k1.ext hx7; have j2 := k2.ext hx7; have j3 := k3.ext hx7
  have hX := hx.trans hx7
  have kp := hp.ext (hx5.trans hx6); have kx := hox.ext hx6; have ky := hoy.bytes
  have hpB : w.heap.size ≤ w3.heap.size := hx.size
  have hxB : w3.heap.size ≤ w4.heap.size := hx4.size
  go_wp2_with fail
  refine wp_region_facts [Fact.eq p,
      Fact.eq (.string (strOf (putF l))),
      Fact.eq v0,
      Fact.bytes (putF l),
      Fact.eq (.string (strOf (putF l))),
      Fact.eq (.bool true),
      Fact.eq (.bool true),
      Fact.eq x,
      Fact.eq (.string (strOf (takeF f).1)),
      Fact.eq y,
      Fact.eq (.string (strOf (takeF f).1)),
      Fact.eq (.bool true),
      Fact.eq (.bool true),
      Fact.eq (.bool true),
      Fact.eq (.int .i64 (takeF f).2),
      Fact.eq (.int .i64 (takeF f).2),
      Fact.eq (.bool true),
      Fact.eq (.bool true),
      Fact.eq (.bool true)]
    [[], [(0, 31)], [], [(2, 33)], [(3, 34)], [(1, 32), (4, 35)], [(5, 36)], [(6, 37)], [(7, 38), (6, 37)], [(6, 37)], [(9, 40), (6, 37)], [(8, 39), (10, 41), (6, 37)], [(6, 37), (11, 42)], [(12, 43)], [(13, 44)], [(13, 44)], [(14, 45), (15, 46), (13, 44)], [(13, 44), (16, 47)], [(17, 48)]]
    [(0, 31), (1, 32), (2, 33), (3, 34), (4, 35), (5, 36), (6, 37), (7, 38), (8, 39), (9, 40), (10, 41), (11, 42), (12, 43), (13, 44), (14, 45), (15, 46), (16, 47), (17, 48), (18, 12)] (by kernel_rfl) (by kernel_rfl) ?_ ?_
  · refine ⟨?_, ?_, ?_, ?_, ?_, ?_, ?_, ?_, ?_, ?_, ?_, ?_, ?_, ?_, ?_, ?_, ?_, ?_, ?_, trivial⟩
    · intro w1 hx1; change wpList _ _ _ _ _ _; exact ob_move rfl rfl rfl rfl rfl
    · intro w1 hx1; rintro _ rfl; change wpList _ _ _ _ _ _; refine strB _ rfl rfl (kp.bytes.ext hx1) ?_; exact wpList_nil ⟨rfl, Ext.refl _, rfl, rfl⟩
    · intro w1 hx1; change wpList _ _ _ _ _ _; exact ob_move rfl rfl rfl rfl rfl
    · intro w1 hx1; rintro _ rfl; change wpList _ _ _ _ _ _; go_wp2_with fail; refine (ref_put w1 _ _ (j0.ext hx1) hn).mono ?_; rintro e w2 ⟨v2, rfl, ho2, hx2⟩; go_wp2_with fail; exact ⟨rfl, hx2, rfl, ho2.bytes⟩
    · intro w1 hx1; intro v34 h34; change wpList _ _ _ _ _ _; refine strB _ rfl rfl h34 ?_; exact wpList_nil ⟨rfl, Ext.refl _, rfl, rfl⟩
    · intro w1 hx1; rintro _ rfl; rintro _ rfl; change wpList _ _ _ _ _ _; have hb := beq_l (putF l); go_wp2_with fail; exact ⟨rfl, Ext.refl _, rfl, rfl⟩
    · intro w1 hx1; rintro _ rfl; change wpList _ _ _ _ _ _; exact ob_move rfl rfl rfl rfl rfl
    · intro w1 hx1; rintro _ rfl; change wpList _ _ _ _ _ _; exact ob_move rfl rfl rfl rfl rfl
    · intro w1 hx1; rintro _ rfl; rintro _ rfl; change wpList _ _ _ _ _ _; refine strB _ rfl rfl (kx.bytes.ext hx1) ?_; exact wpList_nil ⟨rfl, Ext.refl _, rfl, rfl⟩
    · intro w1 hx1; rintro _ rfl; change wpList _ _ _ _ _ _; exact ob_move rfl rfl rfl rfl rfl
    · intro w1 hx1; rintro _ rfl; rintro _ rfl; change wpList _ _ _ _ _ _; refine strB _ rfl rfl (ky.ext hx1) ?_; exact wpList_nil ⟨rfl, Ext.refl _, rfl, rfl⟩
    · intro w1 hx1; rintro _ rfl; rintro _ rfl; rintro _ rfl; change wpList _ _ _ _ _ _; have hb := beq_l (takeF f).1; go_wp2_with fail; exact ⟨rfl, Ext.refl _, rfl, rfl⟩
    · intro w1 hx1; rintro _ rfl; rintro _ rfl; change wpList _ _ _ _ _ _; exact ob_pick rfl rfl rfl rfl rfl rfl
    · intro w1 hx1; rintro _ rfl; change wpList _ _ _ _ _ _; exact ob_move rfl rfl rfl rfl rfl
    · intro w1 hx1; rintro _ rfl; change wpList _ _ _ _ _ _; exact ob_move rfl rfl rfl rfl rfl
    · intro w1 hx1; rintro _ rfl; change wpList _ _ _ _ _ _; exact ob_move rfl rfl rfl rfl rfl
    · intro w1 hx1; rintro _ rfl; rintro _ rfl; rintro _ rfl; change wpList _ _ _ _ _ _; go_wp2_with fail; exact ⟨rfl, Ext.refl _, rfl, rfl⟩
    · intro w1 hx1; rintro _ rfl; rintro _ rfl; change wpList _ _ _ _ _ _; exact ob_pick rfl rfl rfl rfl rfl rfl
    · intro w1 hx1; rintro _ rfl; change wpList _ _ _ _ _ _; exact ob_assign rfl rfl rfl rfl rfl
  · intro w1 hx1; rintro _ rfl; rintro _ rfl; rintro _ rfl; intro v34 h34; rintro _ rfl; rintro _ rfl; rintro _ rfl; rintro _ rfl; rintro _ rfl; rintro _ rfl; rintro _ rfl; rintro _ rfl; rintro _ rfl; rintro _ rfl; rintro _ rfl; rintro _ rfl; rintro _ rfl; rintro _ rfl; rintro _ rfl; refine depsThen_nil ?_; dsimp only; simp only [Act.put, List.setIfInBounds_toArray, List.set_cons_zero, List.set_cons_succ]
    replace h34 : Bytes w1 v34 (putF l) := h34
    have hY := hx7.trans hx1
    replace kp := (kp.ext hx1).mut; replace kx := (kx.ext hx1).mut
    rw [putF_length] at kp
    rcases hp.own_shape with ⟨-, h⟩ | ⟨g, cp, rfl, hg3, hg4, hc1, hc2⟩
    · simp [putF, fourF] at h
    rw [putF_length] at kp hc1 ⊢
    obtain ⟨ax, cx, rfl, hx8, hx9⟩ := kx.shape
    unfold maxLen at hc2 hx9
    generalize (takeF f).1.length = m at kx hx8 ⊢
    clear h34 j0 j1 j2 j3 hox hoy hx4 hx5 hx6 hx7 ky hX hp hx1
    generalize l.length + 4 = n at kp hc1 ⊢
    go_wp2_with fail
    go_loopw [13] (fun i wr => ∃ k : Nat, k ≤ n ∧ i = .int .i64 k ∧ Mut wr w3.heap.size (.slice (some ⟨g, 0, none⟩) n cp) n ∧ Mut wr w4.heap.size (.slice ax m cx) m ∧ Ext w3 wr) (fun i _ => n - (intOf i).toNat)
    case atStart => exact ⟨0, Nat.zero_le _, rfl, kp, kx, hY⟩
    case round =>
      clear kp kx hY
      obtain ⟨k, hk, rfl, kp, kx, hY⟩ := hrel
      by_cases hlt : k < n
      · obtain ⟨g', c, e', -, hcell, hfr, hset⟩ := kp.get hlt
        simp only [Option.some.injEq, Addr.mk.injEq, and_true] at e'
        subst e'
        have hfl := Lib.hid (flip_val c)
        have hb := byte_lt c
        go_wp2_with fail
        rw [hfl.out]
        go_roundw
        case rel => exact ⟨k + 1, by omega, by go_num, hset _, kx.other hg4 _, hY.setCell hg3 _⟩
        case measure => simp [intOf]; omega
      · go_wp2_with fail
        go_loopw [14] (fun i wr => ∃ k : Nat, k ≤ m ∧ i = .int .i64 k ∧ Mut wr w4.heap.size (.slice ax m cx) m ∧ Ext w3 wr) (fun i _ => m - (intOf i).toNat)
        case atStart => exact ⟨0, Nat.zero_le _, rfl, kx, hY⟩
        case round =>
          clear kp kx hY
          obtain ⟨k, hk, rfl, kx, hY⟩ := hrel
          by_cases hlt : k < m
          · obtain ⟨g', c, rfl, hg5, hcell, hfr, hset⟩ := kx.get hlt
            have hfl := Lib.hid (flip_val c)
            have hb := byte_lt c
            go_wp2_with fail
            rw [hfl.out]
            go_roundw
            case rel => exact ⟨k + 1, by omega, by go_num, hset _, hY.setCell (by show w3.heap.size ≤ g'; omega) _⟩
            case measure => simp [intOf]; omega
          · replace k0 := k0.ext hY; replace k1 := k1.ext hY; replace k2 := k2.ext hY; replace k3 := k3.ext hY
            have hZ := hx.trans hY
            have hb := beq_l l
            have hb2 := beq_l f
            clear kx hY hx
            go_wp2_with (first | (refine strB (.tmp 75) rfl rfl k2 ?_) | (refine strB (.tmp 77) rfl rfl k0 ?_) | (refine strB (.tmp 82) rfl rfl k3 ?_) | (refine strB (.tmp 84) rfl rfl k1 ?_))
            refine (wakes_any _).mono ?_
            rintro e w8 ⟨rfl, hx8⟩
            go_wp2_with fail
            go_ret
            exact ⟨rfl, hZ.trans hx8⟩

end Go.Proofs.Ytanlhpmebpebgaa
