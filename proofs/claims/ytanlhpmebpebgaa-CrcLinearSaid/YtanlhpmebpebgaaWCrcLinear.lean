/- CrcLinear, walked: whatever three texts it is handed it answers true and writes nothing that was there. -/
import Derived.Test.YtanlhpmebpebgaaW2
import Derived.Test.YtanlhpmebpebgaaC3
namespace Go.Proofs.Ytanlhpmebpebgaa
open Go.RowKit

theorem wpList_min3 {P : Program} {ops : Array Oper} {Q : Exit → Act → World → Prop} {a : Act} {w : World} {rest : List Oper} {o : Oper} (x y z : Operand) (ts : Array TypeId)
    (ho : o.op = .call { callee := .builtin .min, args := #[x, y, z], argTypes := ts }) (hw : Region.wanted o (yielded ops a.tmps) = true) (p q r : Nat)
    (hx : a.eval x = .int .i64 p) (hy : a.eval y = .int .i64 q) (hz : a.eval z = .int .i64 r)
    (h : wpList P ops Q rest (a.put o.dst (.int .i64 (min (min p q) r : Nat))) w) : wpList P ops Q (o :: rest) a w := by
  refine wpList_val hw ?_ h
  have hr := run_min_int3 (P := P) w ts o.type .i64 .i64 .i64 (p : Int) q r
  have e : (if (r : Int) < (if (q : Int) < p then (q : Int) else p) then (r : Int) else (if (q : Int) < p then (q : Int) else p)) = ((min (min p q) r : Nat) : Int) := by
    by_cases h1 : q < p
    · rw [if_pos (by omega : (q : Int) < p)]
      by_cases h2 : r < q
      · rw [if_pos (by omega)]; omega
      · rw [if_neg (by omega)]; omega
    · rw [if_neg (by omega : ¬ (q : Int) < p)]
      by_cases h2 : r < p
      · rw [if_pos (by omega)]; omega
      · rw [if_neg (by omega)]; omega
  rw [e] at hr
  simp [execOp, ho, resolve, invoke, builtin, hx, hy, hz, hr, Result.andThen]

def mix (l m : List UInt8) (k : Nat) : List UInt8 := l.take k ++ m.drop k

theorem xor3_val (x y z : UInt8) : Value.int .u8 (bits .xor .u8 (bits .xor .u8 (x.toNat : Int) (y.toNat : Int)) (z.toNat : Int)) = .int .u8 ((x ^^^ y ^^^ z).toNat : Int) := by
  rw [u8_xor_nat _ _ (byte_lt x) (byte_lt y), ← UInt8.toNat_xor, u8_xor_nat _ _ (byte_lt _) (byte_lt z), ← UInt8.toNat_xor]

set_option maxHeartbeats 400000 in
theorem crcLinear_any (w : World) (v0 v1 v2 : Value) (l0 l1 l2 : List UInt8) (b0 : Bytes w v0 l0) (b1 : Bytes w v1 l1) (b2 : Bytes w v2 l2) (hn : l0.length ≤ 140737488351232) :
    Calls Try.prog 8 #[v0, v1, v2] w fun e w' => e = .returned (.bool true) ∧ Ext w w' := by
  obtain ⟨a0, c0, rfl, hc0, hm0⟩ := b0.shape
  obtain ⟨a1, c1, rfl, hc1, hm1⟩ := b1.shape
  obtain ⟨a2, c2, rfl, hc2, hm2⟩ := b2.shape
  unfold maxLen at hm0 hm1 hm2
  go_enter Try.func8, Try.ntmps8
  go_wp2_with (refine wpList_min3 (.tmp 11) (.tmp 13) (.tmp 15) _ rfl rfl l0.length l1.length l2.length rfl rfl rfl ?_)
  have hn0 : min l0.length (min l1.length l2.length) ≤ l0.length := by omega
  have hn1 : min l0.length (min l1.length l2.length) ≤ l1.length := by omega
  have hn2 : min l0.length (min l1.length l2.length) ≤ l2.length := by omega
  generalize min l0.length (min l1.length l2.length) = n at hn0 hn1 hn2 ⊢
  have hk0 : (0 : Int) ≤ (n : Int) := by omega
  refine wp_region_facts [Fact.eq (.slice a0 l0.length c0),
      Fact.eq (.int .i64 n),
      Fact.bytes (l0.take n),
      Fact.eq (.slice a1 l1.length c1),
      Fact.eq (.int .i64 n),
      Fact.bytes (l1.take n),
      Fact.eq (.slice a2 l2.length c2),
      Fact.eq (.int .i64 n),
      Fact.bytes (l2.take n),
      Fact.bytes (l0.take n),
      Fact.bytes (l1.take n),
      Fact.bytes (l2.take n)]
    [[], [], [(0, 17), (1, 18)], [], [], [(3, 20), (4, 21)], [], [], [(6, 23), (7, 24)], [(2, 19)], [(5, 22)], [(8, 25)]]
    [(0, 17), (1, 18), (2, 19), (3, 20), (4, 21), (5, 22), (6, 23), (7, 24), (8, 25), (9, 0), (10, 1), (11, 2)] (by kernel_rfl) (by kernel_rfl) ?_ ?_
  · refine ⟨?_, ?_, ?_, ?_, ?_, ?_, ?_, ?_, ?_, ?_, ?_, ?_, trivial⟩
    · intro w1 hx1; change wpList _ _ _ _ _ _; exact ob_move rfl rfl rfl rfl rfl
    · intro w1 hx1; change wpList _ _ _ _ _ _; exact ob_move rfl rfl rfl rfl rfl
    · intro w1 hx1; rintro _ rfl; rintro _ rfl; change wpList _ _ _ _ _ _; refine cutB _ _ _ 0 n rfl rfl (b0.ext hx1) rfl ⟨_, _, rfl, hk0, rfl⟩ (by omega) hn0 ?_; intro v hv; exact wpList_nil ⟨rfl, Ext.refl _, rfl, hv⟩
    · intro w1 hx1; change wpList _ _ _ _ _ _; exact ob_move rfl rfl rfl rfl rfl
    · intro w1 hx1; change wpList _ _ _ _ _ _; exact ob_move rfl rfl rfl rfl rfl
    · intro w1 hx1; rintro _ rfl; rintro _ rfl; change wpList _ _ _ _ _ _; refine cutB _ _ _ 0 n rfl rfl (b1.ext hx1) rfl ⟨_, _, rfl, hk0, rfl⟩ (by omega) hn1 ?_; intro v hv; exact wpList_nil ⟨rfl, Ext.refl _, rfl, hv⟩
    · intro w1 hx1; change wpList _ _ _ _ _ _; exact ob_move rfl rfl rfl rfl rfl
    · intro w1 hx1; change wpList _ _ _ _ _ _; exact ob_move rfl rfl rfl rfl rfl
    · intro w1 hx1; rintro _ rfl; rintro _ rfl; change wpList _ _ _ _ _ _; refine cutB _ _ _ 0 n rfl rfl (b2.ext hx1) rfl ⟨_, _, rfl, hk0, rfl⟩ (by omega) hn2 ?_; intro v hv; exact wpList_nil ⟨rfl, Ext.refl _, rfl, hv⟩
    · intro w1 hx1; intro v19 h19; change wpList _ _ _ _ _ _; exact ob_assign rfl rfl rfl rfl h19
    · intro w1 hx1; intro v22 h22; change wpList _ _ _ _ _ _; exact ob_assign rfl rfl rfl rfl h22
    · intro w1 hx1; intro v25 h25; change wpList _ _ _ _ _ _; exact ob_assign rfl rfl rfl rfl h25
  · intro w1 hx1; rintro _ rfl; rintro _ rfl; intro v19 h19; rintro _ rfl; rintro _ rfl; intro v22 h22; rintro _ rfl; rintro _ rfl; intro v25 h25; intro v0 h0; intro v1 h1; intro v2 h2; refine depsThen_nil ?_; dsimp only; simp only [Act.put, List.setIfInBounds_toArray, List.set_cons_zero, List.set_cons_succ]
    replace h19 : Bytes w1 v19 (l0.take n) := h19
    replace h22 : Bytes w1 v22 (l1.take n) := h22
    replace h25 : Bytes w1 v25 (l2.take n) := h25
    replace h0 : Bytes w1 v0 (l0.take n) := h0
    replace h1 : Bytes w1 v1 (l1.take n) := h1
    replace h2 : Bytes w1 v2 (l2.take n) := h2
    clear h19 h22 h25 b0 b1 b2
    have g0 : (l0.take n).length = n := by simp; omega
    have g1 : (l1.take n).length = n := by simp; omega
    have g2 : (l2.take n).length = n := by simp; omega
    clear hn1 hn2 hk0 hc0 hc1 hc2 hm0 hm1 hm2
    generalize l0.take n = m0 at g0 h0
    generalize l1.take n = m1 at g1 h1
    generalize l2.take n = m2 at g2 h2
    obtain ⟨a0, c0, rfl, hc0, hm0⟩ := h0.shape
    obtain ⟨a1, c1, rfl, hc1, hm1⟩ := h1.shape
    obtain ⟨a2, c2, rfl, hc2, hm2⟩ := h2.shape
    unfold maxLen at hm0 hm1 hm2
    rw [g0] at h0 hc0; rw [g1] at h1 hc1; rw [g2] at h2 hc2
    rw [g0, g1, g2]
    have hnn : (n : Int) ≤ 281474976710656 := by omega
    go_wp2_with (at_make; refine makeB (.tmp 26) (.tmp 26) rfl rfl n rfl rfl (by omega) w1.heap.size (Nat.le_refl _) ?_; intro w2 ho2 hg2)
    have hx2 : Ext w1 w2 := Below.grown (Below.refl _ _) hg2 (Nat.le_refl _) (by simp)
    clear hg2
    have hx3 := hx1.trans hx2
    have b0 := h0; have b1 := h1; have b2 := h2
    clear h0 h1 h2
    obtain ⟨M, e0, hadd, hat⟩ : ∃ M : List UInt8, M.length = n ∧ sumF M = sumF m0 ^^^ sumF m1 ^^^ sumF m2 ∧ ∀ k x y z, m0[k]? = some x → m1[k]? = some y → m2[k]? = some z → M[k]? = some (x ^^^ y ^^^ z) :=
      ⟨add3 m0 m1 m2, add3_len m0 m1 m2 g0 g1 g2, sum_add3 m0 m1 m2 (g0.trans g1.symm) (g1.trans g2.symm), add3_get m0 m1 m2⟩
    have HADD := Lib.hid hadd; clear hadd
    have HAT := Lib.hid hat; clear hat
    have G0 := Lib.hid g0; have G1 := Lib.hid g1; have G2 := Lib.hid g2; have E0 := Lib.hid e0; clear g0 g1 g2 e0
    go_loopw [9] (fun i wr => ∃ k : Nat, k ≤ n ∧ i = .int .i64 k ∧ OwnB wr w1.heap.size (.slice (some ⟨w1.heap.size, 0, none⟩) n n) (M.take k ++ List.replicate (n - k) 0) ∧ Ext w1 wr) (fun i _ => n - (intOf i).toNat)
    case atStart => exact ⟨0, Nat.zero_le _, rfl, by simpa using ho2, hx2⟩
    case round =>
      clear ho2
      obtain ⟨k, hk, rfl, ho, hx⟩ := hrel
      by_cases hlt : k < n
      · obtain ⟨p0, o0, x, rfl, x0, q0⟩ := b0.get (k := k) (by rw [G0.out]; exact hlt)
        obtain ⟨p1, o1, y, rfl, y0, q1⟩ := b1.get (k := k) (by rw [G1.out]; exact hlt)
        obtain ⟨p2, o2, z, rfl, z0, q2⟩ := b2.get (k := k) (by rw [G2.out]; exact hlt)
        replace q0 := hx.cell q0; replace q1 := hx.cell q1; replace q2 := hx.cell q2
        have hMk := Lib.hid (HAT.out k _ _ _ x0 y0 z0)
        clear x0 y0 z0
        obtain ⟨c, -, hcell, hfr⟩ := ho.get (k := k) (by rw [fill_len M n k E0.out hk]; exact hlt)
        have hval := Lib.hid (xor3_val x y z)
        have x1 := byte_lt x; have y1 := byte_lt y; have z1 := byte_lt z
        go_wp2_with fail
        go_region
        rw [hval.out]
        go_wp2_with fail
        have hb1 : k < (M.take k ++ List.replicate (n - k) (0 : UInt8)).length := by rw [fill_len M n k E0.out hk]; exact hlt
        go_roundw
        case rel => exact ⟨k + 1, by omega, by go_num, by rw [← fill_step M n k _ hlt hMk.out]; exact (ho.set hb1 _).ext (Ext.refl _).drew, (hx.setCell (Nat.le_refl _) _).drew⟩
        case measure => simp [intOf]; omega
      · obtain rfl : k = n := by omega
        have hoM : OwnB wr w1.heap.size (.slice (some ⟨w1.heap.size, 0, none⟩) k k) M := by
          have : M.take k ++ List.replicate (k - k) (0 : UInt8) = M := by rw [Nat.sub_self, List.replicate_zero, List.append_nil, List.take_of_length_le (by rw [E0.out]; exact Nat.le_refl _)]
          rw [this] at ho; exact ho
        have bM := hoM.bytes
        replace b0 := b0.ext hx; replace b1 := b1.ext hx; replace b2 := b2.ext hx
        have hy := hx1.trans hx
        clear ho hoM hx
        go_wp2_with fail
        refine (sum_any _ _ _ bM).mono ?_
        rintro e w4 ⟨rfl, hx4⟩
        go_wp2_with fail
        refine (sum_any _ _ _ (b0.ext hx4)).mono ?_
        rintro e w5 ⟨rfl, hx5⟩
        replace hx5 := hx4.trans hx5
        clear hx4
        go_wp2_with fail
        refine (sum_any _ _ _ (b1.ext hx5)).mono ?_
        rintro e w6 ⟨rfl, hx6⟩
        replace hx6 := hx5.trans hx6
        clear hx5
        go_wp2_with fail
        refine (sum_any _ _ _ (b2.ext hx6)).mono ?_
        rintro e w7 ⟨rfl, hx7⟩
        replace hx7 := hy.trans (hx6.trans hx7)
        clear hx6 hy
        have s0 := sumF_lt m0; have s1 := sumF_lt m1; have s2 := sumF_lt m2
        rw [HADD.out]
        clear HADD HAT
        generalize sumF m0 = S0 at s0 ⊢
        generalize sumF m1 = S1 at s1 ⊢
        generalize sumF m2 = S2 at s2 ⊢
        have hxx := u32_xor_nat S0 S1 s0 s1
        have hyy := u32_xor_nat (S0 ^^^ S1) S2 (xor_lt s0 s1) s2
        go_wp2_with fail
        refine (wakes_any _).mono ?_
        rintro e w8 ⟨rfl, hx8⟩
        go_wp2_with fail
        go_ret
        exact ⟨rfl, hx7.trans hx8⟩

end Go.Proofs.Ytanlhpmebpebgaa
