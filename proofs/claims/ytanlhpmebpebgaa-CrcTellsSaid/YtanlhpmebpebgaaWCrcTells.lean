/- CrcTells, walked: whatever bytes, bits, place and byte it is handed it answers true and writes nothing that was there. -/
import Derived.Test.YtanlhpmebpebgaaW2
import Derived.Test.YtanlhpmebpebgaaC4
import Derived.Deep.DeepCutAuto
namespace Go.Proofs.Ytanlhpmebpebgaa
open Go.RowKit

theorem tells_k {n a : Nat} (hn : n ≤ 140737488351232) (h4 : 4 ≤ n) (ha : a < 4294967296) :
    ∃ k : Nat, wrap64 ((a : Int) % ((8 * (n : Int) - 31) % 4294967296)) = (k : Int) ∧ k + 32 ≤ 8 * n := by
  have hz0 : (0 : Int) < (8 * (n : Int) - 31) % 4294967296 := by omega
  have h1 : (8 * (n : Int) - 31) % 4294967296 ≤ 8 * (n : Int) - 31 := by omega
  generalize (8 * (n : Int) - 31) % 4294967296 = z at hz0 h1 ⊢
  have h2 := Int.emod_lt_of_pos (a : Int) hz0
  have h3 := Int.emod_nonneg (a : Int) (show z ≠ 0 by omega)
  have h4 : (a : Int) % z ≤ a := by
    have h5 := Int.emod_add_mul_ediv (a : Int) z
    have h6 := Int.mul_nonneg (show 0 ≤ z by omega) (Int.ediv_nonneg (show (0 : Int) ≤ (a : Int) by omega) (show 0 ≤ z by omega))
    omega
  generalize (a : Int) % z = y at h2 h3 h4 ⊢
  refine ⟨y.toNat, ?_, by omega⟩
  unfold wrap64; omega

theorem turn_val (c : UInt8) (e : Nat) : Value.int .u8 (bits .xor .u8 (c.toNat : Int) (2 ^ (e % 8) % 256)) = .int .u8 ((c ^^^ UInt8.ofNat (2 ^ (e % 8))).toNat : Int) := by
  have h : 2 ^ (e % 8) < 256 := Nat.lt_of_lt_of_le (Nat.pow_lt_pow_right (by omega) (show e % 8 < 8 by omega)) (by decide)
  have e1 : ((2 : Int) ^ (e % 8) % 256) = ((2 ^ (e % 8) : Nat) : Int) := by
    have : ((2 : Int) ^ (e % 8)) = ((2 ^ (e % 8) : Nat) : Int) := by simp
    rw [this]
    generalize 2 ^ (e % 8) = q at h ⊢
    omega
  rw [e1, u8_xor_nat _ _ (byte_lt c) h, UInt8.toNat_xor, UInt8.toNat_ofNat', Nat.mod_eq_of_lt h]
theorem turn_num (x y k j : Nat) : x ^^^ y * 2 ^ k ^^^ (UInt8.ofNat (2 ^ ((k + j) % 8))).toNat * 2 ^ (8 * ((k + j) / 8)) = x ^^^ (y ^^^ 2 ^ j) * 2 ^ k := by
  have h : 2 ^ ((k + j) % 8) < 256 := Nat.lt_of_lt_of_le (Nat.pow_lt_pow_right (by omega) (show (k + j) % 8 < 8 by omega)) (by decide)
  rw [UInt8.toNat_ofNat', Nat.mod_eq_of_lt h, ← Nat.pow_add, show (k + j) % 8 + 8 * ((k + j) / 8) = j + k by omega]
  have : (y ^^^ 2 ^ j) * 2 ^ k = y * 2 ^ k ^^^ 2 ^ (j + k) := by
    rw [Nat.pow_add]
    simp only [← Nat.shiftLeft_eq, Nat.shiftLeft_xor_distrib]
  rw [this, Nat.xor_assoc]
theorem turn2_val (c d : UInt8) : Value.int .u8 (bits .xor .u8 (c.toNat : Int) (d.toNat : Int)) = .int .u8 ((c ^^^ d).toNat : Int) := by
  rw [u8_xor_nat _ _ (byte_lt c) (byte_lt d), UInt8.toNat_xor]
theorem bit_and {B j : Nat} (hB : B < 4294967296) : bits .and .u32 ((B : Int) / 2 ^ j) 1 = ((B / 2 ^ j % 2 : Nat) : Int) := by
  have e : ((B : Int) / 2 ^ j) = ((B / 2 ^ j : Nat) : Int) := by simp
  have := u32_and_nat (B / 2 ^ j) 1 (Nat.lt_of_le_of_lt (Nat.div_le_self _ _) hB) (by omega)
  rw [e, show ((1 : Int)) = ((1 : Nat) : Int) from rfl, this]
  congr 1
  exact Nat.and_two_pow_sub_one_eq_mod (B / 2 ^ j) 1
theorem bit_test_yes {B j : Nat} (hB : B < 4294967296) (h : B / 2 ^ j % 2 = 1) : (bits .and .u32 ((B : Int) / 2 ^ j) 1 == 1) = true := by rw [bit_and hB, h]; rfl
theorem bit_test_no {B j : Nat} (hB : B < 4294967296) (h : ¬ B / 2 ^ j % 2 = 1) : (bits .and .u32 ((B : Int) / 2 ^ j) 1 == 1) = false := by
  rw [bit_and hB, show B / 2 ^ j % 2 = 0 by omega]; rfl

set_option maxRecDepth 100000 in
set_option maxHeartbeats 1000000 in
theorem crcTells_any (w : World) (v : Value) (l : List UInt8) (bits_ at_ : Nat) (by_ : UInt8) (hl : Bytes w v l) (hn : l.length ≤ 140737488351232) (hb : bits_ < 4294967296) (ha : at_ < 4294967296) :
    Calls Try.prog 5 #[v, .int .u32 bits_, .int .u32 at_, .int .u8 by_.toNat] w fun e w' => e = .returned (.bool true) ∧ Ext w w' := by
  obtain ⟨a, cap, rfl, hc, hm⟩ := hl.shape
  unfold maxLen at hm
  go_enter Try.func5, Try.ntmps5
  go_upto_if 16 with fail
  go_cut [1] (fun s1 wx => ∃ B : Nat, s1 = .int .u32 B ∧ 0 < B ∧ B < 4294967296 ∧ w = wx)
  case first =>
    by_cases h0 : bits_ = 0
    · subst h0
      go_wp2
      go_meet
      exact ⟨1, rfl, by omega, by omega, rfl⟩
    · have hd : ((bits_ : Int) == 0) = false := by simp; omega
      go_wp2
      go_meet
      exact ⟨bits_, rfl, by omega, hb, rfl⟩
  case rest =>
    obtain ⟨B, rfl, hB0, hB, rfl⟩ := hcut
    clear hb bits_
    go_upto_if 19 with fail
    go_cut [8] (fun s8 wx => Ext w wx)
    case first =>
      by_cases h4 : l.length < 4
      · have hd : decide ((4 : Int) ≤ l.length) = false := by simp; omega
        go_wp2
        go_meet
        exact Ext.refl w
      · have hd : decide ((4 : Int) ≤ l.length) = true := by simp; omega
        have hl8 : (4 : Int) ≤ (l.length : Int) := by omega
        have hz : ¬ ((8 * (l.length : Int) - 31) % 4294967296 = 0) := by omega
        have hz0 : (0 : Int) < (8 * (l.length : Int) - 31) % 4294967296 := by omega
        go_wp2_with (at_builtin; refine appB (.const (.slice none 0 0)) (.tmp 28) rfl rfl w.heap.size (OwnB.nil _ _) hl (by simp; omega) (Nat.le_refl _) ?_; intro v2 w2 ho2 hg2; rw [List.nil_append] at ho2; have hx2 : Ext w w2 := (Ext.refl w).mono_grown (OwnB.nil w w.heap.size) (Nat.le_refl _) hg2; clear hg2)
        obtain ⟨k, hk1, hk2⟩ : ∃ k : Nat, wrap64 ((at_ : Int) % ((8 * (l.length : Int) - 31) % 4294967296)) = (k : Int) ∧ k + 32 ≤ 8 * l.length := tells_k hn (by omega) ha
        rw [hk1]
        clear hk1 hz hz0 hd
        rcases ho2.own_shape with ⟨-, h⟩ | ⟨g, cp, rfl, hg3, hg4, hc1, hc2⟩
        · simp [h] at h4
        unfold maxLen at hc2
        have HL := Lib.hid (show (l.length = l.length) from rfl)
        go_loopw [11] (fun i wr => ∃ j : Nat, j ≤ 32 ∧ i = .int .i64 j ∧ ∃ m : List UInt8, Hid (m.length = l.length) ∧ Hid (num m = num l ^^^ (B % 2 ^ j) * 2 ^ k) ∧ OwnB wr w.heap.size (.slice (some ⟨g, 0, none⟩) l.length cp) m ∧ Ext w wr) (fun i _ => 32 - (intOf i).toNat)
        case atStart => exact ⟨0, by omega, rfl, l, rfl, by show _ = _; rw [Nat.pow_zero, Nat.mod_one, Nat.zero_mul, Nat.xor_zero], ho2, hx2⟩
        case round =>
          clear ho2 hx2
          obtain ⟨j, hj, rfl, m, hm1, hm2, ho, hx⟩ := hrel
          by_cases hlt : j < 32
          · have hd : decide ((j : Int) < 32) = true := by simp; omega
            have hji : (j : Int) < 32 := by omega
            by_cases hbit : B / 2 ^ j % 2 = 1
            · have hd2 := bit_test_yes hB hbit
              have hpl : (k + j) / 8 < m.length := by rw [hm1.out]; omega
              obtain ⟨c, hc, hcell, hfr⟩ := ho.get hpl
              have hidx : ((k : Int) + (j : Int)) / 8 < (l.length : Int) := by omega
              go_wp2_with fail
              go_region
              rw [turn_val]
              have hp8 : (k + j) % 8 < 8 := by omega
              have hnext : Hid (num (m.set ((k + j) / 8) (c ^^^ UInt8.ofNat (2 ^ ((k + j) % 8)))) = num l ^^^ (B % 2 ^ (j + 1)) * 2 ^ k) := by
                show _ = _
                rw [num_set m _ c _ hc, hm2.out, bit_more hbit, turn_num]
              have hlen : Hid ((m.set ((k + j) / 8) (c ^^^ UInt8.ofNat (2 ^ ((k + j) % 8)))).length = l.length) := by
                show _ = _
                rw [List.length_set]; exact hm1.out
              have hset := (ho.set hpl (c ^^^ UInt8.ofNat (2 ^ ((k + j) % 8)))).ext (Ext.refl _).drew
              clear hd2 hcell hfr
              go_wp2_with fail
              go_roundw
              case rel => exact ⟨j + 1, by omega, by go_num, _, hlen, hnext, hset, (hx.setCell hg3 _).drew⟩
              case measure => simp [intOf]; omega
            · have hd2 := bit_test_no hB hbit
              have hnext : Hid (num m = num l ^^^ (B % 2 ^ (j + 1)) * 2 ^ k) := by
                show _ = _
                rw [bit_same (by omega)]; exact hm2.out
              go_wp2_with fail
              go_roundw
              case rel => exact ⟨j + 1, by omega, by go_num, m, hm1, hnext, ho, hx⟩
              case measure => simp [intOf]; omega
          · have hd : decide ((j : Int) < 32) = false := by simp; omega
            have ej : Hid (j = 32) := by show _ = _; omega
            go_wp2_with fail
            refine (sum_any _ _ _ ho.bytes).mono ?_
            rintro e w5 ⟨rfl, hx5⟩
            go_wp2_with fail
            refine (sum_any _ _ _ (hl.ext (hx.trans hx5))).mono ?_
            rintro e w6 ⟨rfl, hx6⟩
            have hne : sumF m ≠ sumF l := sum_tells (x := B) (k := k) hm1.out hB (by omega) (by omega) (by rw [hm2.out, ej.out, Nat.mod_eq_of_lt hB])
            have hd2 : (((sumF m : Nat) : Int) == (sumF l : Nat)) = false := by simp; omega
            clear hm1 hm2 hne
            go_wp2_with fail
            go_meet
            exact hx.trans (hx5.trans hx6)
    case rest =>
      replace hl := hl.ext hcut
      go_upto_if 61 with (go_at_call 21; refine (put_any _ _ l hl hn).mono ?_; rintro e w3 ⟨v3, rfl, ho3, hx3⟩)
      go_cut [3] (fun s3 wx => ∃ D : UInt8, s3 = .int .u8 D.toNat ∧ Hid (D ≠ 0) ∧ w3 = wx)
      case first =>
        by_cases h0 : by_ = 0
        · subst h0
          go_wp2
          go_meet
          exact ⟨1, rfl, by show _ ≠ _; decide, rfl⟩
        · have hd : ((by_.toNat : Int) == 0) = false := by
            have : by_.toNat ≠ 0 := fun h => h0 (UInt8.toNat_inj.1 h)
            simp; omega
          go_wp2
          go_meet
          exact ⟨by_, rfl, h0, rfl⟩
      case rest =>
        obtain ⟨D, rfl, hD, rfl⟩ := hcut
        rcases ho3.own_shape with ⟨-, h⟩ | ⟨g, cp, rfl, hg3, hg4, hc1, hc2⟩
        · simp [putF, fourF] at h
        rw [putF_length] at hc1 ⊢
        unfold maxLen at hc2
        have hpl : at_ % (l.length + 4) < (putF l).length := by rw [putF_length]; exact Nat.mod_lt _ (by omega)
        obtain ⟨c, hc, hcell, hfr⟩ := ho3.get hpl
        have htorn := Lib.hid (take_torn l _ c D hc hD.out)
        have hset := ho3.set hpl (c ^^^ D)
        have hlen : ((putF l).set (at_ % (l.length + 4)) (c ^^^ D)).length = l.length + 4 := by rw [List.length_set, putF_length]
        have hset2 := hset.bytes
        have hE := (hcut.trans hx3).setCell (p := ⟨g, at_ % (l.length + 4), none⟩) (Nat.le_trans hcut.size hg3) (.int .u8 ((c ^^^ D).toNat : Int))
        have hval := Lib.hid (turn2_val c D)
        have hc1 := byte_lt c; have hd1 := byte_lt D
        have hd0 : (((l.length : Int) + 4) == 0) = false := by simp; omega
        have hd0' : (((l.length + 4 : Nat) : Int) == 0) = false := by simp; omega
        have hz : ¬ ((l.length : Int) + 4 = 0) := by omega
        have hz0 : (0 : Int) < (l.length : Int) + 4 := by omega
        clear hpl hc hset ho3 hl hx3 hcut
        rw [putF_length] at hset2
        have hi0 := Int.emod_nonneg (at_ : Int) hz
        have hi1 := Int.emod_lt_of_pos (at_ : Int) hz0
        go_wp2_with fail
        rw [hval.out]
        refine (take_any _ _ _ hset2 (by rw [hlen]; omega)).mono ?_
        rw [htorn.out]
        rintro e w4 ⟨v4, rfl, -, hx4⟩
        clear hset2 htorn hcell hfr hlen
        have hx5 := hE.trans hx4
        clear hE hx4 hi0 hi1 hz hz0 hd0 hd0'
        go_wp2_with fail
        refine (wakes_any _).mono ?_
        rintro e w5 ⟨rfl, hx6⟩
        go_wp2_with fail
        go_ret
        exact ⟨rfl, hx5.trans hx6⟩

end Go.Proofs.Ytanlhpmebpebgaa
