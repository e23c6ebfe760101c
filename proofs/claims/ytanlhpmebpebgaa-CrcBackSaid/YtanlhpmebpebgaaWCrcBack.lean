/- CrcBack, walked: whatever bytes it is handed it answers true and writes nothing that was there. -/
import Derived.Test.YtanlhpmebpebgaaW2
import Derived.Test.YtanlhpmebpebgaaC3
namespace Go.Proofs.Ytanlhpmebpebgaa
open Go.RowKit

set_option maxHeartbeats 400000 in
theorem crcBack_any (w : World) (v u : Value) (l f : List UInt8) (hl : Bytes w v l) (hn : l.length ≤ 140737488351232) (hf : Bytes w u f) (hm : f.length ≤ 140737488351232) :
    Calls Try.prog 6 #[v, u] w fun e w' => e = .returned (.bool true) ∧ Ext w w' := by
  obtain ⟨a, cap, rfl, hc, hcm⟩ := hf.shape
  unfold maxLen at hcm
  go_enter Try.func6, Try.ntmps6
  go_wp2_with fail
  refine (put_any _ _ _ hl hn).mono ?_
  rintro e w1 ⟨v1, rfl, ho1, hx1⟩
  go_wp2_with fail
  refine (take_any _ _ _ ho1.bytes (by rw [putF_length]; omega)).mono ?_
  rw [take_put]
  rintro e w2 ⟨v2, rfl, ho2, hx2⟩
  have hx3 := hx1.trans hx2
  have hb2 := ho2.bytes
  have hl2 := hl.ext hx3
  clear ho1 hx1 hx2 ho2
  have hb := beq_l l
  go_wp2_with (first | (refine strB (.tmp 18) rfl rfl hb2 ?_) | (refine strB (.tmp 20) rfl rfl hl2 ?_))
  clear hb2 hl2 hb
  refine (take_any _ _ _ (hf.ext hx3) (by omega)).mono ?_
  rcases take_cases f with ⟨h4, ht⟩ | ⟨h4, ht⟩ | ⟨ht, hp⟩
  all_goals rw [ht]; clear ht
  · rintro e w4 ⟨v4, rfl, ho4, hx4⟩
    obtain ⟨a4, c4, rfl, -, -⟩ := ho4.bytes.shape
    have hx5 := hx3.trans hx4
    clear ho4 hx4
    have hd : decide ((f.length : Int) < 4) = true := by simp; omega
    go_wp2_with fail
    refine (wakes_any _).mono ?_
    rintro e w5 ⟨rfl, hx6⟩
    go_wp2_with fail
    go_ret
    exact ⟨rfl, hx5.trans hx6⟩
  · rintro e w4 ⟨v4, rfl, ho4, hx4⟩
    obtain ⟨a4, c4, rfl, -, -⟩ := ho4.bytes.shape
    have hx5 := hx3.trans hx4
    clear ho4 hx4
    have hd : decide ((f.length : Int) < 4) = false := by simp; omega
    go_wp2_with fail
    refine (wakes_any _).mono ?_
    rintro e w5 ⟨rfl, hx6⟩
    go_wp2_with fail
    go_ret
    exact ⟨rfl, hx5.trans hx6⟩
  · rintro e w4 ⟨v4, rfl, ho4, hx4⟩
    have hx5 := hx3.trans hx4
    have hb4 := ho4.bytes
    have hf5 := hf.ext hx5
    clear ho4 hx4
    go_wp2_with fail
    refine wp_region_facts [Fact.eq v4,
        Fact.bytes f,
        Fact.eq (.string (strOf f)),
        Fact.eq (.slice a f.length cap),
        Fact.eq (.string (strOf f)),
        Fact.eq (.bool true),
        Fact.eq (.bool true),
        Fact.eq (.bool true),
        Fact.eq (.bool true),
        Fact.eq (.bool true)]
      [[], [(0, 45)], [(1, 46)], [], [(3, 48)], [(2, 47), (4, 49)], [(5, 50)], [(6, 51)], [(6, 51), (7, 52)], [(8, 53)]]
      [(0, 45), (1, 46), (2, 47), (3, 48), (4, 49), (5, 50), (6, 51), (7, 52), (8, 53), (9, 4)] (by kernel_rfl) (by kernel_rfl) ?_ ?_
    · refine ⟨?_, ?_, ?_, ?_, ?_, ?_, ?_, ?_, ?_, ?_, trivial⟩
      · intro w1 hx1; change wpList _ _ _ _ _ _; exact ob_move rfl rfl rfl rfl rfl
      · intro w1 hx1; rintro _ rfl; change wpList _ _ _ _ _ _; go_wp2_with fail; refine (put_any w1 _ _ (hb4.ext hx1) (by simp; omega)).mono ?_; rw [hp]; rintro e w2 ⟨v2, rfl, ho2, hx2⟩; go_wp2_with fail; exact ⟨rfl, hx2, rfl, ho2.bytes⟩
      · intro w1 hx1; intro v46 h46; change wpList _ _ _ _ _ _; refine strB _ rfl rfl h46 ?_; exact wpList_nil ⟨rfl, Ext.refl _, rfl, rfl⟩
      · intro w1 hx1; change wpList _ _ _ _ _ _; exact ob_move rfl rfl rfl rfl rfl
      · intro w1 hx1; rintro _ rfl; change wpList _ _ _ _ _ _; refine strB _ rfl rfl (hf5.ext hx1) ?_; exact wpList_nil ⟨rfl, Ext.refl _, rfl, rfl⟩
      · intro w1 hx1; rintro _ rfl; rintro _ rfl; change wpList _ _ _ _ _ _; have hb := beq_l f; go_wp2_with fail; exact ⟨rfl, Ext.refl _, rfl, rfl⟩
      · intro w1 hx1; rintro _ rfl; change wpList _ _ _ _ _ _; exact ob_move rfl rfl rfl rfl rfl
      · intro w1 hx1; rintro _ rfl; change wpList _ _ _ _ _ _; go_wp2_with fail; refine (wakes_any w1).mono ?_; rintro e w2 ⟨rfl, hx2⟩; go_wp2_with fail; exact ⟨rfl, hx2, rfl, rfl⟩
      · intro w1 hx1; rintro _ rfl; rintro _ rfl; change wpList _ _ _ _ _ _; exact ob_pick rfl rfl rfl rfl rfl rfl
      · intro w1 hx1; rintro _ rfl; change wpList _ _ _ _ _ _; exact ob_assign rfl rfl rfl rfl rfl
    · intro w1 hx1; rintro _ rfl; intro v46 h46; rintro _ rfl; rintro _ rfl; rintro _ rfl; rintro _ rfl; rintro _ rfl; rintro _ rfl; rintro _ rfl; rintro _ rfl; refine depsThen_nil ?_; dsimp only; simp only [Act.put, List.setIfInBounds_toArray, List.set_cons_zero, List.set_cons_succ]
      go_wp2_with fail
      go_ret
      exact ⟨rfl, hx5.trans hx1⟩

end Go.Proofs.Ytanlhpmebpebgaa
