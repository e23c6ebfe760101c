/- CrcParts, walked: whatever bytes, sum and place it is handed it answers true and writes nothing that was there. -/
import Derived.Test.YtanlhpmebpebgaaW2
namespace Go.Proofs.Ytanlhpmebpebgaa
open Go.RowKit

set_option maxHeartbeats 400000 in
theorem crcParts_any (w : World) (v : Value) (l : List UInt8) (s at_ : Nat) (hl : Bytes w v l) (hn : l.length ≤ 140737488351232) (hs : s < 4294967296) (ha : at_ < 65536) :
    Calls Try.prog 7 #[v, .int .u32 s, .int .u16 at_] w fun e w' => e = .returned (.bool true) ∧ Ext w w' := by
  obtain ⟨a, cap, rfl, hc, hm⟩ := hl.shape
  unfold maxLen at hm
  have hpos : (0 : Int) < (l.length : Int) + 1 := by omega
  go_enter Try.func7, Try.ntmps7
  go_wp2_with fail
  rw [show ((at_ : Int) % ((l.length : Int) + 1)) = ((at_ % (l.length + 1) : Nat) : Int) from by simp]
  have hk : at_ % (l.length + 1) ≤ l.length := by have := Nat.mod_lt at_ (show 0 < l.length + 1 by omega); omega
  generalize at_ % (l.length + 1) = k at hk ⊢
  have hk0 : (0 : Int) ≤ (k : Int) := by omega
  refine wp_region_facts [Fact.eq (.int .u32 s),
      Fact.eq (.slice a l.length cap),
      Fact.eq (.int .i64 k),
      Fact.bytes (l.take k),
      Fact.eq (.int .u32 (extF s (l.take k) : Nat)),
      Fact.eq (.slice a l.length cap),
      Fact.eq (.int .i64 k),
      Fact.bytes (l.drop k),
      Fact.eq (.int .u32 (extF s l : Nat)),
      Fact.eq (.int .u32 s),
      Fact.eq (.slice a l.length cap),
      Fact.eq (.int .u32 (extF s l : Nat)),
      Fact.eq (.bool true),
      Fact.eq (.bool true),
      Fact.eq (.slice a l.length cap),
      Fact.eq (.int .i64 k),
      Fact.bytes (l.take k),
      Fact.eq (.int .u32 (sumF (l.take k) : Nat)),
      Fact.eq (.slice a l.length cap),
      Fact.eq (.int .i64 k),
      Fact.bytes (l.drop k),
      Fact.eq (.int .u32 (sumF l : Nat)),
      Fact.eq (.slice a l.length cap),
      Fact.eq (.int .u32 (sumF l : Nat)),
      Fact.eq (.bool true),
      Fact.eq (.bool true),
      Fact.eq (.bool true),
      Fact.eq (.int .u32 s),
      Fact.eq (.int .u32 s),
      Fact.eq (.int .u32 s),
      Fact.eq (.bool true),
      Fact.eq (.bool true),
      Fact.eq (.bool true),
      Fact.eq (.bool true),
      Fact.eq (.bool true),
      Fact.eq (.bool true)]
    [[], [], [], [(1, 15), (2, 16)], [(0, 14), (3, 17)], [], [], [(5, 19), (6, 20)], [(4, 18), (7, 21)], [], [], [(9, 23), (10, 24)], [(8, 22), (11, 25)], [(12, 26)], [(13, 27)], [(13, 27)], [(14, 28), (15, 29), (13, 27)], [(16, 30), (13, 27)], [(13, 27)], [(13, 27)], [(18, 32), (19, 33), (13, 27)], [(17, 31), (20, 34), (13, 27)], [(13, 27)], [(22, 36), (13, 27)], [(21, 35), (23, 37), (13, 27)], [(13, 27), (24, 38)], [(25, 39)], [(26, 40)], [(27, 41), (26, 40)], [(26, 40)], [(28, 42), (29, 43), (26, 40)], [(26, 40), (30, 44)], [(31, 45)], [(32, 46)], [(32, 46), (33, 47)], [(34, 48)]]
    [(0, 14), (1, 15), (2, 16), (3, 17), (4, 18), (5, 19), (6, 20), (7, 21), (8, 22), (9, 23), (10, 24), (11, 25), (12, 26), (13, 27), (14, 28), (15, 29), (16, 30), (17, 31), (18, 32), (19, 33), (20, 34), (21, 35), (22, 36), (23, 37), (24, 38), (25, 39), (26, 40), (27, 41), (28, 42), (29, 43), (30, 44), (31, 45), (32, 46), (33, 47), (34, 48), (35, 6)] (by kernel_rfl) (by kernel_rfl) ?_ ?_
  · refine ⟨?_, ?_, ?_, ?_, ?_, ?_, ?_, ?_, ?_, ?_, ?_, ?_, ?_, ?_, ?_, ?_, ?_, ?_, ?_, ?_, ?_, ?_, ?_, ?_, ?_, ?_, ?_, ?_, ?_, ?_, ?_, ?_, ?_, ?_, ?_, ?_, trivial⟩
    · intro w1 hx1; change wpList _ _ _ _ _ _; exact ob_move rfl rfl rfl rfl rfl
    · intro w1 hx1; change wpList _ _ _ _ _ _; exact ob_move rfl rfl rfl rfl rfl
    · intro w1 hx1; change wpList _ _ _ _ _ _; exact ob_move rfl rfl rfl rfl rfl
    · intro w1 hx1; rintro _ rfl; rintro _ rfl; change wpList _ _ _ _ _ _; refine cutB _ _ _ 0 k rfl rfl (hl.ext hx1) rfl ⟨_, _, rfl, hk0, rfl⟩ (by omega) hk ?_; intro v hv; exact wpList_nil ⟨rfl, Ext.refl _, rfl, hv⟩
    · intro w1 hx1; rintro _ rfl; intro v17 h17; change wpList _ _ _ _ _ _; go_wp2_with fail; refine (extend_any s w1 _ _ h17 hs).mono ?_; rintro e w2 ⟨rfl, hx2⟩; go_wp2_with fail; exact ⟨rfl, hx2, rfl, rfl⟩
    · intro w1 hx1; change wpList _ _ _ _ _ _; exact ob_move rfl rfl rfl rfl rfl
    · intro w1 hx1; change wpList _ _ _ _ _ _; exact ob_move rfl rfl rfl rfl rfl
    · intro w1 hx1; rintro _ rfl; rintro _ rfl; change wpList _ _ _ _ _ _; refine cutB _ _ _ k l.length rfl rfl (hl.ext hx1) ⟨_, _, rfl, hk0, rfl⟩ rfl hk (Nat.le_refl _) ?_; intro v hv; rw [List.take_length] at hv; exact wpList_nil ⟨rfl, Ext.refl _, rfl, hv⟩
    · intro w1 hx1; rintro _ rfl; intro v21 h21; change wpList _ _ _ _ _ _; go_wp2_with fail; refine (extend_any _ w1 _ _ h21 (extF_lt _ _)).mono ?_; rintro e w2 ⟨rfl, hx2⟩; rw [extF_append hs, List.take_append_drop]; go_wp2_with fail; exact ⟨rfl, hx2, rfl, rfl⟩
    · intro w1 hx1; change wpList _ _ _ _ _ _; exact ob_move rfl rfl rfl rfl rfl
    · intro w1 hx1; change wpList _ _ _ _ _ _; exact ob_move rfl rfl rfl rfl rfl
    · intro w1 hx1; rintro _ rfl; rintro _ rfl; change wpList _ _ _ _ _ _; go_wp2_with fail; refine (extend_any s w1 _ _ (hl.ext hx1) hs).mono ?_; rintro e w2 ⟨rfl, hx2⟩; go_wp2_with fail; exact ⟨rfl, hx2, rfl, rfl⟩
    · intro w1 hx1; rintro _ rfl; rintro _ rfl; change wpList _ _ _ _ _ _; go_wp2_with fail; exact ⟨rfl, Ext.refl _, rfl, rfl⟩
    · intro w1 hx1; rintro _ rfl; change wpList _ _ _ _ _ _; exact ob_move rfl rfl rfl rfl rfl
    · intro w1 hx1; rintro _ rfl; change wpList _ _ _ _ _ _; exact ob_move rfl rfl rfl rfl rfl
    · intro w1 hx1; rintro _ rfl; change wpList _ _ _ _ _ _; exact ob_move rfl rfl rfl rfl rfl
    · intro w1 hx1; rintro _ rfl; rintro _ rfl; rintro _ rfl; change wpList _ _ _ _ _ _; refine cutB _ _ _ 0 k rfl rfl (hl.ext hx1) rfl ⟨_, _, rfl, hk0, rfl⟩ (by omega) hk ?_; intro v hv; exact wpList_nil ⟨rfl, Ext.refl _, rfl, hv⟩
    · intro w1 hx1; intro v30 h30; rintro _ rfl; change wpList _ _ _ _ _ _; go_wp2_with fail; refine (sum_any w1 _ _ h30).mono ?_; rintro e w2 ⟨rfl, hx2⟩; go_wp2_with fail; exact ⟨rfl, hx2, rfl, rfl⟩
    · intro w1 hx1; rintro _ rfl; change wpList _ _ _ _ _ _; exact ob_move rfl rfl rfl rfl rfl
    · intro w1 hx1; rintro _ rfl; change wpList _ _ _ _ _ _; exact ob_move rfl rfl rfl rfl rfl
    · intro w1 hx1; rintro _ rfl; rintro _ rfl; rintro _ rfl; change wpList _ _ _ _ _ _; refine cutB _ _ _ k l.length rfl rfl (hl.ext hx1) ⟨_, _, rfl, hk0, rfl⟩ rfl hk (Nat.le_refl _) ?_; intro v hv; rw [List.take_length] at hv; exact wpList_nil ⟨rfl, Ext.refl _, rfl, hv⟩
    · intro w1 hx1; rintro _ rfl; intro v34 h34; rintro _ rfl; change wpList _ _ _ _ _ _; go_wp2_with fail; refine (extend_any _ w1 _ _ h34 (sumF_lt _)).mono ?_; rintro e w2 ⟨rfl, hx2⟩; rw [sumF, extF_append (by omega), List.take_append_drop, ← sumF]; go_wp2_with fail; exact ⟨rfl, hx2, rfl, rfl⟩
    · intro w1 hx1; rintro _ rfl; change wpList _ _ _ _ _ _; exact ob_move rfl rfl rfl rfl rfl
    · intro w1 hx1; rintro _ rfl; rintro _ rfl; change wpList _ _ _ _ _ _; go_wp2_with fail; refine (sum_any w1 _ _ (hl.ext hx1)).mono ?_; rintro e w2 ⟨rfl, hx2⟩; go_wp2_with fail; exact ⟨rfl, hx2, rfl, rfl⟩
    · intro w1 hx1; rintro _ rfl; rintro _ rfl; rintro _ rfl; change wpList _ _ _ _ _ _; go_wp2_with fail; exact ⟨rfl, Ext.refl _, rfl, rfl⟩
    · intro w1 hx1; rintro _ rfl; rintro _ rfl; change wpList _ _ _ _ _ _; exact ob_pick rfl rfl rfl rfl rfl rfl
    · intro w1 hx1; rintro _ rfl; change wpList _ _ _ _ _ _; exact ob_move rfl rfl rfl rfl rfl
    · intro w1 hx1; rintro _ rfl; change wpList _ _ _ _ _ _; exact ob_move rfl rfl rfl rfl rfl
    · intro w1 hx1; rintro _ rfl; rintro _ rfl; change wpList _ _ _ _ _ _; go_wp2_with fail; refine (extend_any s w1 _ _ (Bytes.nil _) hs).mono ?_; rintro e w2 ⟨rfl, hx2⟩; rw [extF_nil hs]; go_wp2_with fail; exact ⟨rfl, hx2, rfl, rfl⟩
    · intro w1 hx1; rintro _ rfl; change wpList _ _ _ _ _ _; exact ob_move rfl rfl rfl rfl rfl
    · intro w1 hx1; rintro _ rfl; rintro _ rfl; rintro _ rfl; change wpList _ _ _ _ _ _; go_wp2_with fail; exact ⟨rfl, Ext.refl _, rfl, rfl⟩
    · intro w1 hx1; rintro _ rfl; rintro _ rfl; change wpList _ _ _ _ _ _; exact ob_pick rfl rfl rfl rfl rfl rfl
    · intro w1 hx1; rintro _ rfl; change wpList _ _ _ _ _ _; exact ob_move rfl rfl rfl rfl rfl
    · intro w1 hx1; rintro _ rfl; change wpList _ _ _ _ _ _; go_wp2_with fail; refine (wakes_any w1).mono ?_; rintro e w2 ⟨rfl, hx2⟩; go_wp2_with fail; exact ⟨rfl, hx2, rfl, rfl⟩
    · intro w1 hx1; rintro _ rfl; rintro _ rfl; change wpList _ _ _ _ _ _; exact ob_pick rfl rfl rfl rfl rfl rfl
    · intro w1 hx1; rintro _ rfl; change wpList _ _ _ _ _ _; exact ob_assign rfl rfl rfl rfl rfl
  · intro w1 hx1; rintro _ rfl; rintro _ rfl; rintro _ rfl; intro v17 h17; rintro _ rfl; rintro _ rfl; rintro _ rfl; intro v21 h21; rintro _ rfl; rintro _ rfl; rintro _ rfl; rintro _ rfl; rintro _ rfl; rintro _ rfl; rintro _ rfl; rintro _ rfl; intro v30 h30; rintro _ rfl; rintro _ rfl; rintro _ rfl; intro v34 h34; rintro _ rfl; rintro _ rfl; rintro _ rfl; rintro _ rfl; rintro _ rfl; rintro _ rfl; rintro _ rfl; rintro _ rfl; rintro _ rfl; rintro _ rfl; rintro _ rfl; rintro _ rfl; rintro _ rfl; rintro _ rfl; rintro _ rfl; refine depsThen_nil ?_; dsimp only; simp only [Act.put, List.setIfInBounds_toArray, List.set_cons_zero, List.set_cons_succ]
    go_wp2_with fail
    go_ret
    exact ⟨rfl, hx1⟩

end Go.Proofs.Ytanlhpmebpebgaa
