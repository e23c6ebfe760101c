/- The reference's Same of the same records, walked. -/
import Derived.Test.YtkaepcjkpaplfaaDoorQ4
import Derived.Test.YtkaepcjkpaplfaaDoorS3
namespace Go.Proofs.YtkaepcjkpaplfaaDoor
open Go.RowKit

set_option maxRecDepth 100000 in
set_option maxHeartbeats 4000000 in
theorem rsame12_any (w : World) (v1 v2 : Value) (xs : List (Nat × List UInt8)) (h1 : Lst w v1 xs) (h2 : Lst w v2 xs) :
    Calls Tryd.prog 20 #[v1, v2] w fun e w' => e = .returned (.bool true) ∧ Ext w w' := by
  obtain ⟨a1, c1, rfl, hc1, hm1⟩ := h1.shape
  obtain ⟨a2, c2, rfl, hc2, hm2⟩ := h2.shape
  unfold maxLen at hm1 hm2
  generalize hln : xs.length = n at *
  have HLN := Lib.hid hln
  clear hln
  go_enter Tryd.func20, Tryd.ntmps20
  go_wp2_with fail
  go_loopw [5] (fun i wr => ∃ k : Nat, k ≤ n ∧ i = .int .i64 k ∧ Ext w wr) (fun i _ => n - (intOf i).toNat)
  case atStart => exact ⟨0, Nat.zero_le _, rfl, Ext.refl w⟩
  case round =>
    obtain ⟨k, hk, rfl, hx⟩ := hrel
    by_cases hlt : k < n
    · have k1 : k < xs.length := by rw [HLN.out]; exact hlt
      obtain ⟨b1, o1, ad1, cc1, rfl, f1, f2, f3⟩ := (h1.ext hx).at k1
      obtain ⟨b2, o2, ad2, cc2, rfl, g1, g2, g3⟩ := (h2.ext hx).at k1
      generalize xs[k] = x at *
      have hltI : decide ((k : Int) < (n : Int)) = true := decide_eq_true (by omega)
      go_wp2_with fail
      refine wp_region_facts [Fact.eq (.slice (some ⟨b1, o1, none⟩) n c1),
          Fact.eq (.int .i64 k),
          Fact.eq (.pointer (some ⟨b1, o1 + k * 2, none⟩)),
          Fact.eq (.pointer (some ⟨b1, o1 + k * 2, none⟩)),
          Fact.eq (.int .u64 x.1),
          Fact.eq (.slice (some ⟨b2, o2, none⟩) n c2),
          Fact.eq (.int .i64 k),
          Fact.eq (.pointer (some ⟨b2, o2 + k * 2, none⟩)),
          Fact.eq (.pointer (some ⟨b2, o2 + k * 2, none⟩)),
          Fact.eq (.int .u64 x.1),
          Fact.eq (.bool false),
          Fact.eq (.bool false),
          Fact.eq (.slice (some ⟨b1, o1, none⟩) n c1),
          Fact.eq (.int .i64 k),
          Fact.eq (.pointer (some ⟨b1, o1 + k * 2, none⟩)),
          Fact.eq (.pointer (some ⟨b1, o1 + k * 2 + 1, none⟩)),
          Fact.eq (.slice ad1 x.2.length cc1),
          Fact.eq (.string (strOf x.2)),
          Fact.eq (.slice (some ⟨b2, o2, none⟩) n c2),
          Fact.eq (.int .i64 k),
          Fact.eq (.pointer (some ⟨b2, o2 + k * 2, none⟩)),
          Fact.eq (.pointer (some ⟨b2, o2 + k * 2 + 1, none⟩)),
          Fact.eq (.slice ad2 x.2.length cc2),
          Fact.eq (.string (strOf x.2)),
          Fact.eq (.bool false),
          Fact.eq (.bool false)]
        [[], [], [(0, 17), (1, 18)], [(2, 19)], [(3, 20)], [], [], [(5, 22), (6, 23)], [(7, 24)], [(8, 25)], [(4, 21), (9, 26)], [(10, 27)], [(11, 28)], [(11, 28)], [(12, 29), (13, 30), (11, 28)], [(14, 31), (11, 28)], [(15, 32), (11, 28)], [(16, 33), (11, 28)], [(11, 28)], [(11, 28)], [(18, 35), (19, 36), (11, 28)], [(20, 37), (11, 28)], [(21, 38), (11, 28)], [(22, 39), (11, 28)], [(17, 34), (23, 40), (11, 28)], [(11, 28), (24, 41)]]
        [(0, 17), (1, 18), (2, 19), (3, 20), (4, 21), (5, 22), (6, 23), (7, 24), (8, 25), (9, 26), (10, 27), (11, 28), (12, 29), (13, 30), (14, 31), (15, 32), (16, 33), (17, 34), (18, 35), (19, 36), (20, 37), (21, 38), (22, 39), (23, 40), (24, 41), (25, 42)] (by kernel_rfl) (by kernel_rfl) ?_ ?_
      · refine ⟨?_, ?_, ?_, ?_, ?_, ?_, ?_, ?_, ?_, ?_, ?_, ?_, ?_, ?_, ?_, ?_, ?_, ?_, ?_, ?_, ?_, ?_, ?_, ?_, ?_, ?_, trivial⟩
        · intro w1 hx1; change wpList _ _ _ _ _ _; exact ob_move rfl rfl rfl rfl rfl
        · intro w1 hx1; change wpList _ _ _ _ _ _; exact ob_move rfl rfl rfl rfl rfl
        · intro w1 hx1; rintro _ rfl; rintro _ rfl; change wpList _ _ _ _ _ _; go_wp2_with fail; exact ⟨rfl, Ext.refl _, rfl, rfl⟩
        · intro w1 hx1; rintro _ rfl; change wpList _ _ _ _ _ _; go_wp2_with fail; exact ⟨rfl, Ext.refl _, rfl, rfl⟩
        · intro w1 hx1; rintro _ rfl; change wpList _ _ _ _ _ _; have hq := hx1.cell f1; go_wp2_with fail; exact ⟨rfl, Ext.refl _, rfl, rfl⟩
        · intro w1 hx1; change wpList _ _ _ _ _ _; exact ob_move rfl rfl rfl rfl rfl
        · intro w1 hx1; change wpList _ _ _ _ _ _; exact ob_move rfl rfl rfl rfl rfl
        · intro w1 hx1; rintro _ rfl; rintro _ rfl; change wpList _ _ _ _ _ _; go_wp2_with fail; exact ⟨rfl, Ext.refl _, rfl, rfl⟩
        · intro w1 hx1; rintro _ rfl; change wpList _ _ _ _ _ _; go_wp2_with fail; exact ⟨rfl, Ext.refl _, rfl, rfl⟩
        · intro w1 hx1; rintro _ rfl; change wpList _ _ _ _ _ _; have hq := hx1.cell g1; go_wp2_with fail; exact ⟨rfl, Ext.refl _, rfl, rfl⟩
        · intro w1 hx1; rintro _ rfl; rintro _ rfl; change wpList _ _ _ _ _ _; go_wp2_with fail; exact ⟨rfl, Ext.refl _, rfl, rfl⟩
        · intro w1 hx1; rintro _ rfl; change wpList _ _ _ _ _ _; exact ob_move rfl rfl rfl rfl rfl
        · intro w1 hx1; rintro _ rfl; change wpList _ _ _ _ _ _; exact ob_move rfl rfl rfl rfl rfl
        · intro w1 hx1; rintro _ rfl; change wpList _ _ _ _ _ _; exact ob_move rfl rfl rfl rfl rfl
        · intro w1 hx1; rintro _ rfl; rintro _ rfl; rintro _ rfl; change wpList _ _ _ _ _ _; go_wp2_with fail; exact ⟨rfl, Ext.refl _, rfl, rfl⟩
        · intro w1 hx1; rintro _ rfl; rintro _ rfl; change wpList _ _ _ _ _ _; go_wp2_with fail; exact ⟨rfl, Ext.refl _, rfl, rfl⟩
        · intro w1 hx1; rintro _ rfl; rintro _ rfl; change wpList _ _ _ _ _ _; have hq := hx1.cell f2; go_wp2_with fail; exact ⟨rfl, Ext.refl _, rfl, rfl⟩
        · intro w1 hx1; rintro _ rfl; rintro _ rfl; change wpList _ _ _ _ _ _; refine strB _ rfl rfl (f3.ext hx1) ?_; exact wpList_nil ⟨rfl, Ext.refl _, rfl, rfl⟩
        · intro w1 hx1; rintro _ rfl; change wpList _ _ _ _ _ _; exact ob_move rfl rfl rfl rfl rfl
        · intro w1 hx1; rintro _ rfl; change wpList _ _ _ _ _ _; exact ob_move rfl rfl rfl rfl rfl
        · intro w1 hx1; rintro _ rfl; rintro _ rfl; rintro _ rfl; change wpList _ _ _ _ _ _; go_wp2_with fail; exact ⟨rfl, Ext.refl _, rfl, rfl⟩
        · intro w1 hx1; rintro _ rfl; rintro _ rfl; change wpList _ _ _ _ _ _; go_wp2_with fail; exact ⟨rfl, Ext.refl _, rfl, rfl⟩
        · intro w1 hx1; rintro _ rfl; rintro _ rfl; change wpList _ _ _ _ _ _; have hq := hx1.cell g2; go_wp2_with fail; exact ⟨rfl, Ext.refl _, rfl, rfl⟩
        · intro w1 hx1; rintro _ rfl; rintro _ rfl; change wpList _ _ _ _ _ _; refine strB _ rfl rfl (g3.ext hx1) ?_; exact wpList_nil ⟨rfl, Ext.refl _, rfl, rfl⟩
        · intro w1 hx1; rintro _ rfl; rintro _ rfl; rintro _ rfl; change wpList _ _ _ _ _ _; go_wp2_with fail; exact ⟨rfl, Ext.refl _, rfl, rfl⟩
        · intro w1 hx1; rintro _ rfl; rintro _ rfl; change wpList _ _ _ _ _ _; exact ob_pick rfl rfl rfl rfl rfl rfl
      · intro w1 hx1; rintro _ rfl; rintro _ rfl; rintro _ rfl; rintro _ rfl; rintro _ rfl; rintro _ rfl; rintro _ rfl; rintro _ rfl; rintro _ rfl; rintro _ rfl; rintro _ rfl; rintro _ rfl; rintro _ rfl; rintro _ rfl; rintro _ rfl; rintro _ rfl; rintro _ rfl; rintro _ rfl; rintro _ rfl; rintro _ rfl; rintro _ rfl; rintro _ rfl; rintro _ rfl; rintro _ rfl; rintro _ rfl; rintro _ rfl; refine depsThen_nil ?_; dsimp only; simp only [Act.put, List.setIfInBounds_toArray, List.set_cons_zero, List.set_cons_succ]
        have hx2 := hx.trans hx1
        go_wp2_with fail
        go_roundw
        case rel => exact ⟨k + 1, hlt, rfl, hx2⟩
        case measure => simp [intOf]; omega
    · obtain rfl : k = n := by omega
      go_wp2_with fail
      go_ret
      exact ⟨rfl, hx⟩

theorem splitS_len {b : List UInt8} {first : Nat} : (∀ x ∈ (splitS b first).1, x.2.length ≤ 1500) ∧ 9 * (splitS b first).1.length ≤ b.length := by
  have hall : ∀ (xs : List (Nat × List UInt8)) (a : Nat), Rise a xs → ∀ x ∈ xs, x.2.length ≤ 1500 := fun xs => by
    induction xs with
    | nil => intro a _ x hx; cases hx
    | cons y xs ih =>
      intro a h x hx
      rcases List.mem_cons.1 hx with e | hx
      · rw [e]; exact h.2.2.1
      · exact ih _ h.2.2.2 x hx
  have hlen : ∀ (X : List (List UInt8)) (a : Nat), (splitL a X).1.length ≤ X.length := fun X => by
    induction X with
    | nil => intro a; simp [splitL]
    | cons f X ih =>
      intro a
      unfold splitL
      split
      · simp
      · split
        · simp
        · simp only [List.length_cons]; have := ih; exact Nat.succ_le_succ (this _)
  by_cases hm : may first
  · obtain ⟨h1, -⟩ := splitS_told b first hm
    refine ⟨hall _ _ h1, ?_⟩
    have h2 := hlen (splitF b).1 first
    obtain ⟨hg, -, t, hbt, -⟩ := split_shape b.length b (Nat.le_refl _)
    have h3 := good_len _ hg
    have h4 := congrArg List.length hbt
    rw [List.length_append] at h4
    unfold splitS
    rw [if_pos hm]
    omega
  · unfold splitS
    rw [if_neg hm]
    simp

end Go.Proofs.YtkaepcjkpaplfaaDoor
