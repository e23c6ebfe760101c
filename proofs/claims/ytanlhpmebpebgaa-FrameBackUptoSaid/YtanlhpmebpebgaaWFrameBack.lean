/- FrameBack, walked: whatever it is handed, the bytes of a bounded length, it answers true and writes nothing that was there. -/
import Derived.Test.YtanlhpmebpebgaaW11
import Derived.Test.YtanlhpmebpebgaaT1
namespace Go.Proofs.Ytanlhpmebpebgaa
open Go.RowKit

theorem frs_lenB : ∀ (l : List (List UInt8)), (∀ r ∈ l, Good r) → (frs l).length ≤ 2056 * l.length
  | [], _ => by simp [frs]
  | r :: l, h => by
    have h1 := (h r (by simp)).2
    have h2 := frs_lenB l fun q hq => h q (by simp [hq])
    have e : frs (r :: l) = fr r ++ frs l := by simp [frs]
    rw [e, List.length_append, fr_length, List.length_cons]
    omega
theorem frs_take_le (l : List (List UInt8)) (k : Nat) : (frs (l.take k)).length ≤ (frs l).length := by
  have e : frs l = frs (l.take k) ++ frs (l.drop k) := by
    have := congrArg frs (List.take_append_drop k l)
    rw [← this, frs, frs, frs, List.map_append, List.flatten_append]
  rw [e, List.length_append]; omega
theorem frs_take_next (l : List (List UInt8)) (k : Nat) (h : k < l.length) : frs (l.take (k + 1)) = frs (l.take k) ++ fr l[k] := by
  rw [List.take_succ_eq_append_getElem h, frs_snoc]

set_option maxRecDepth 100000 in
set_option maxHeartbeats 2000000 in
theorem frameBack_any (w : World) (v0 v1 : Value) (l : List (List UInt8)) (b : List UInt8) (h0 : Lists w v0 l) (h1 : Bytes w v1 b) (hn : b.length ≤ 20000000000000) :
    Calls Try.prog 12 #[v0, v1] w fun e w' => e = .returned (.bool true) ∧ Ext w w' := by
  obtain ⟨a1, c1, rfl, hc1, hm1⟩ := h1.shape
  unfold maxLen at hm1
  obtain ⟨s1, s2, t, s3, -⟩ := split_shape b.length b (Nat.le_refl _)
  have S3 := Lib.hid s3
  clear s3
  generalize hX : (splitF b).1 = X at *
  generalize hN : (splitF b).2 = N at *
  have HX := Lib.hid hX; have HN := Lib.hid hN; clear hX hN
  have hNb : N ≤ b.length := by rw [S3.out, List.length_append, s2]; omega
  have hbt : b.take N = frs X := by rw [S3.out, s2]; exact List.take_left' rfl
  have HBT := Lib.hid hbt; have S2 := Lib.hid s2
  clear hbt s2 S3
  go_enter Try.func12, Try.ntmps12
  go_wp2_with fail
  refine (made_any _ _ l h0).mono ?_
  rintro e w1 ⟨vf, vo, pre, rfl, hof, hlo, hg, h40, hx1⟩
  have k1 := h1.ext hx1
  have hfl := frs_lenB pre hg
  have hsp : Hid (splitF (frs pre) = (pre, (frs pre).length)) := by
    have := splitF_torn pre [] hg (nextR_short (by simp))
    rw [List.append_nil] at this
    exact this
  obtain ⟨af, cf, rfl, hcf, hmf⟩ := (OwnB.bytes hof).shape
  unfold maxLen at hmf
  generalize hq : (frs pre).length = q at *
  have HQ := Lib.hid hq
  clear hq
  go_wp2_with fail
  refine (split_any _ _ _ (OwnB.bytes hof) (by rw [HQ.out]; omega)).mono ?_
  rw [hsp.out]
  rintro e w2 ⟨vx, ux, rfl, hox, hrx, hx2⟩
  have hlx : Lists w2 vx pre := Recs.lists hrx hox
  obtain ⟨ax, cx, rfl, hcx, hmx⟩ := hlx.shape
  have hlo2 := hlo.ext hx2
  clear hox hrx hsp hof hlo
  go_wp2_with fail
  refine (same_any _ _ _ pre pre hlx hlo2).mono ?_
  rintro e w3 ⟨rfl, hx3⟩
  have hs : decide (pre = pre) = true := decide_eq_true rfl
  rw [hs]
  clear hs hlo2 hlx
  replace hx3 := hx2.trans hx3
  have k3 := k1.ext hx3
  go_wp2_with fail
  refine (split_any _ _ b k3 (by omega)).mono ?_
  rw [HX.out, HN.out]
  rintro e w5 ⟨vy, uy, rfl, hoy, hry, hx5⟩
  have hly : Lists w5 vy X := Recs.lists hry hoy
  obtain ⟨ay, cy, rfl, hcy, hmy⟩ := hly.shape
  unfold maxLen at hmy
  have k5 := k3.ext hx5
  have hx15 := hx1.trans (hx3.trans hx5)
  clear hoy hry hx5 hx3 hx2 hx1 k3 k1 h0 h1
  generalize hxn : X.length = n at *
  have HXN := Lib.hid hxn
  clear hxn
  go_wp2_with fail
  go_loopw [11, 12, 13] (fun va vs i wr => ∃ k : Nat, k ≤ n ∧ i = .int .i64 k ∧ vs = .int .i64 (frs (X.take k)).length ∧ OwnB wr w5.heap.size va (frs (X.take k)) ∧ Ext w5 wr) (fun _ _ i _ => n - (intOf i).toNat)
  case atStart => exact ⟨0, Nat.zero_le _, rfl, rfl, OwnB.nil _ _, Ext.refl _⟩
  case round =>
    obtain ⟨k, hk, rfl, rfl, hoa, hx⟩ := hrel
    have hle : (frs (X.take k)).length ≤ N := by rw [S2.out]; exact frs_take_le X k
    by_cases hlt : k < n
    · have k1 : k < X.length := by rw [HXN.out]; exact hlt
      obtain ⟨bl, o, u, rfl, hu, hB⟩ := hly.at k1
      have hgr : Good X[k] := s1 _ (List.getElem_mem _)
      have hnext := Lib.hid (frs_take_next X k k1)
      have hle2 : (frs (X.take (k + 1))).length ≤ N := by rw [S2.out]; exact frs_take_le X (k + 1)
      rw [hnext.out, List.length_append, fr_length] at hle2
      generalize X[k] = r at *
      generalize frs (X.take k) = A at *
      have hu' := hx.cell hu
      have hB' := hB.ext hx
      obtain ⟨au, cu, rfl, -, -⟩ := hB.shape
      have hfr := fr_length r
      have hr2 := hgr.2
      go_wp2_with fail
      refine (fput_any _ _ r hB').mono ?_
      rw [putR_good' hgr]
      rintro e w6 ⟨vp, rfl, hop, hx6⟩
      simp only [] at hop
      rcases OwnB.own_shape hop with ⟨-, h⟩ | ⟨g, cp, rfl, hg3, hg4, hcp, hcm⟩
      · rw [h] at hfr; simp at hfr
      have HFR := Lib.hid hfr
      rw [hfr] at hcp hop ⊢
      unfold maxLen at hcm
      have kp := OwnB.bytes hop
      have hxw6 := hx.trans hx6
      have hu6 := hxw6.cell hu
      have hB6 := hB.ext hxw6
      have hoa6 := OwnB.ext hoa hx6
      clear hfr hB' hu'
      go_wp2_with fail
      refine (size_any _ _ r hB6).mono ?_
      rintro e w7 ⟨rfl, rfl⟩
      have hsz : sizeR r = r.length + 8 := by unfold sizeR; rw [if_pos ⟨hgr.1, hgr.2⟩]
      rw [hsz]
      have hnat : decide ((r.length : Int) + 8 = ((r.length + 8 : Nat) : Int)) = true := decide_eq_true (by omega)
      clear hsz
      go_wp2_with (at_builtin; refine appB (.tmp 67) (.tmp 68) rfl rfl w5.heap.size hoa6 kp (by rw [HFR.out]; omega) hxw6.size ?_; intro v8 w8 ho8 hg8; have hx8 : Ext w5 w8 := hxw6.mono_grown hoa6 (Nat.le_refl _) hg8; clear hg8)
      go_roundw
      case rel => exact ⟨k + 1, hlt, by go_num, (by rw [hnext.out, List.length_append, HFR.out]; go_num), (by rw [hnext.out]; exact ho8), hx8⟩
      case measure => simp [intOf]; omega
    · obtain rfl : k = n := by omega
      have hall : frs (X.take k) = frs X := by rw [List.take_of_length_le (by rw [HXN.out]; exact Nat.le_refl _)]
      rw [hall] at hoa ⊢
      rw [← S2.out]
      clear hall hle
      go_wp2_with fail
      have eN : (0 : Int) ≤ (N : Int) ∧ ((N : Int)).toNat = N := by omega
      have EN := Lib.hid eN
      clear eN
      refine wp_region_facts [Fact.eq (.int .i64 N),
          Fact.eq (.int .i64 N),
          Fact.eq (.bool true),
          Fact.eq (.bool true),
          Fact.eq (.int .i64 N),
          Fact.eq (.slice a1 b.length c1),
          Fact.eq (.int .i64 b.length),
          Fact.eq (.bool true),
          Fact.eq (.bool true),
          Fact.eq (.bool true),
          Fact.eq u11,
          Fact.eq (.string (strOf (frs X))),
          Fact.eq (.slice a1 b.length c1),
          Fact.eq (.int .i64 N),
          Fact.bytes (frs X),
          Fact.eq (.string (strOf (frs X))),
          Fact.eq (.bool true),
          Fact.eq (.bool true),
          Fact.eq (.bool true),
          Fact.eq (.bool true),
          Fact.eq (.bool true),
          Fact.eq (.bool true)]
        [[], [], [(0, 74), (1, 75)], [(2, 76)], [(3, 77)], [(3, 77)], [(5, 79), (3, 77)], [(4, 78), (6, 80), (3, 77)], [(3, 77), (7, 81)], [(8, 82)], [(9, 83)], [(10, 84), (9, 83)], [(9, 83)], [(9, 83)], [(12, 86), (13, 87), (9, 83)], [(14, 88), (9, 83)], [(11, 85), (15, 89), (9, 83)], [(9, 83), (16, 90)], [(17, 91)], [(18, 92)], [(18, 92), (19, 93)], [(20, 94)]]
        [(0, 74), (1, 75), (2, 76), (3, 77), (4, 78), (5, 79), (6, 80), (7, 81), (8, 82), (9, 83), (10, 84), (11, 85), (12, 86), (13, 87), (14, 88), (15, 89), (16, 90), (17, 91), (18, 92), (19, 93), (20, 94), (21, 4)] (by kernel_rfl) (by kernel_rfl) ?_ ?_
      · refine ⟨?_, ?_, ?_, ?_, ?_, ?_, ?_, ?_, ?_, ?_, ?_, ?_, ?_, ?_, ?_, ?_, ?_, ?_, ?_, ?_, ?_, ?_, trivial⟩
        · intro w1 hx1; change wpList _ _ _ _ _ _; exact ob_move rfl rfl rfl rfl rfl
        · intro w1 hx1; change wpList _ _ _ _ _ _; exact ob_move rfl rfl rfl rfl rfl
        · intro w1 hx1; rintro _ rfl; rintro _ rfl; change wpList _ _ _ _ _ _; go_wp2_with fail; exact ⟨rfl, Ext.refl _, rfl, rfl⟩
        · intro w1 hx1; rintro _ rfl; change wpList _ _ _ _ _ _; exact ob_move rfl rfl rfl rfl rfl
        · intro w1 hx1; rintro _ rfl; change wpList _ _ _ _ _ _; exact ob_move rfl rfl rfl rfl rfl
        · intro w1 hx1; rintro _ rfl; change wpList _ _ _ _ _ _; exact ob_move rfl rfl rfl rfl rfl
        · intro w1 hx1; rintro _ rfl; rintro _ rfl; change wpList _ _ _ _ _ _; go_wp2_with fail; exact ⟨rfl, Ext.refl _, rfl, rfl⟩
        · intro w1 hx1; rintro _ rfl; rintro _ rfl; rintro _ rfl; change wpList _ _ _ _ _ _; go_wp2_with fail; exact ⟨rfl, Ext.refl _, rfl, rfl⟩
        · intro w1 hx1; rintro _ rfl; rintro _ rfl; change wpList _ _ _ _ _ _; exact ob_pick rfl rfl rfl rfl rfl rfl
        · intro w1 hx1; rintro _ rfl; change wpList _ _ _ _ _ _; exact ob_move rfl rfl rfl rfl rfl
        · intro w1 hx1; rintro _ rfl; change wpList _ _ _ _ _ _; exact ob_move rfl rfl rfl rfl rfl
        · intro w1 hx1; rintro _ rfl; rintro _ rfl; change wpList _ _ _ _ _ _; refine strB _ rfl rfl ((OwnB.bytes hoa).ext hx1) ?_; exact wpList_nil ⟨rfl, Ext.refl _, rfl, rfl⟩
        · intro w1 hx1; rintro _ rfl; change wpList _ _ _ _ _ _; exact ob_move rfl rfl rfl rfl rfl
        · intro w1 hx1; rintro _ rfl; change wpList _ _ _ _ _ _; exact ob_move rfl rfl rfl rfl rfl
        · intro w1 hx1; rintro _ rfl; rintro _ rfl; rintro _ rfl; change wpList _ _ _ _ _ _; refine cutB (.tmp 86) none (some (.tmp 87)) 0 N rfl rfl ((k5.ext hx).ext hx1) rfl ⟨_, _, rfl, EN.out.1, EN.out.2⟩ (Nat.zero_le _) hNb ?_; intro v88 h88; rw [List.drop_zero, HBT.out] at h88; exact wpList_nil ⟨rfl, Ext.refl _, rfl, h88⟩
        · intro w1 hx1; intro v88 h88; rintro _ rfl; change wpList _ _ _ _ _ _; refine strB _ rfl rfl h88 ?_; exact wpList_nil ⟨rfl, Ext.refl _, rfl, rfl⟩
        · intro w1 hx1; rintro _ rfl; rintro _ rfl; rintro _ rfl; change wpList _ _ _ _ _ _; have hb := beq_l (frs X); go_wp2_with fail; exact ⟨rfl, Ext.refl _, rfl, rfl⟩
        · intro w1 hx1; rintro _ rfl; rintro _ rfl; change wpList _ _ _ _ _ _; exact ob_pick rfl rfl rfl rfl rfl rfl
        · intro w1 hx1; rintro _ rfl; change wpList _ _ _ _ _ _; exact ob_move rfl rfl rfl rfl rfl
        · intro w1 hx1; rintro _ rfl; change wpList _ _ _ _ _ _; go_wp2_with fail; refine (wakes11_any w1).mono ?_; rintro e w2 ⟨rfl, hx2⟩; go_wp2_with fail; exact ⟨rfl, hx2, rfl, rfl⟩
        · intro w1 hx1; rintro _ rfl; rintro _ rfl; change wpList _ _ _ _ _ _; exact ob_pick rfl rfl rfl rfl rfl rfl
        · intro w1 hx1; rintro _ rfl; change wpList _ _ _ _ _ _; exact ob_assign rfl rfl rfl rfl rfl
      · intro w1 hx1; rintro _ rfl; rintro _ rfl; rintro _ rfl; rintro _ rfl; rintro _ rfl; rintro _ rfl; rintro _ rfl; rintro _ rfl; rintro _ rfl; rintro _ rfl; rintro _ rfl; rintro _ rfl; rintro _ rfl; rintro _ rfl; intro v88 h88; rintro _ rfl; rintro _ rfl; rintro _ rfl; rintro _ rfl; rintro _ rfl; rintro _ rfl; rintro _ rfl; refine depsThen_nil ?_; dsimp only; simp only [Act.put, List.setIfInBounds_toArray, List.set_cons_zero, List.set_cons_succ]
        replace h88 : Bytes w1 v88 (frs X) := h88
        go_wp2_with fail
        go_ret
        exact ⟨rfl, hx15.trans (hx.trans hx1)⟩

end Go.Proofs.Ytanlhpmebpebgaa
