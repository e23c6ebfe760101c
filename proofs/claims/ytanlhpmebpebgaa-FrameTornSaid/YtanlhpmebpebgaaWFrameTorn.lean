/- FrameTorn, walked: whatever it is handed it answers true and writes nothing that was there. -/
import Derived.Test.YtanlhpmebpebgaaW11
import Derived.Test.YtanlhpmebpebgaaT1
namespace Go.Proofs.Ytanlhpmebpebgaa
open Go.RowKit

theorem frs_len40 : ∀ (l : List (List UInt8)), (∀ r ∈ l, Good r) → (frs l).length ≤ 2056 * l.length
  | [], _ => by simp [frs]
  | r :: l, h => by
    have h1 := (h r (by simp)).2
    have h2 := frs_len40 l fun q hq => h q (by simp [hq])
    have e : frs (r :: l) = fr r ++ frs l := by simp [frs]
    rw [e, List.length_append, fr_length, List.length_cons]
    omega

theorem turn3_val (c d : UInt8) : Value.int .u8 (bits .xor .u8 (c.toNat : Int) (d.toNat : Int)) = .int .u8 ((c ^^^ d).toNat : Int) := by
  rw [u8_xor_nat _ _ (byte_lt c) (byte_lt d), UInt8.toNat_xor]
theorem take_set (l : List UInt8) (j : Nat) (y : UInt8) (h : j < l.length) : (l.take (j + 1)).set j y = l.take j ++ [y] := by
  rw [List.take_succ_eq_append_getElem h, List.set_append_right _ _ (by rw [List.length_take]; omega), List.length_take, Nat.min_eq_left (by omega), Nat.sub_self]
  rfl

set_option maxRecDepth 100000 in
set_option maxHeartbeats 2000000 in
theorem frameTorn_any (w : World) (v0 v1 : Value) (l : List (List UInt8)) (r : List UInt8) (k : Nat) (c : UInt8) (h0 : Lists w v0 l) (h1 : Bytes w v1 r) (hk : k < 65536) :
    Calls Try.prog 13 #[v0, v1, .int .u16 k, .int .u8 c.toNat] w fun e w' => e = .returned (.bool true) ∧ Ext w w' := by
  obtain ⟨a1, c1, rfl, hc1, hm1⟩ := h1.shape
  unfold maxLen at hm1
  go_enter Try.func13, Try.ntmps13
  go_wp2_with fail
  refine (made_any _ _ l h0).mono ?_
  rintro e w1 ⟨vf, vo, pre, rfl, hof, hlo, hg, h40, hx1⟩
  have k1 := h1.ext hx1
  go_wp2_with fail
  refine (fput_any _ _ r k1).mono ?_
  by_cases hgr : Good r
  · rw [putR_good' hgr]
    rintro e w2 ⟨vm, rfl, hom, hx2⟩
    simp only [] at hom
    have hfl := frs_len40 pre hg
    have hml := fr_length r
    have hr1 := hgr.1
    have hr2 := hgr.2
    have hlb : Hid (splitF (frs pre ++ (fr r).take (k % (fr r).length)) = (pre, (frs pre).length)) := splitF_torn pre _ hg (cutT_none r hgr _ (by rw [← hml]; exact Nat.mod_lt _ (by omega)))
    obtain ⟨af, cf, rfl, hcf, hmf⟩ := (OwnB.bytes hof).shape
    have kf := (OwnB.bytes hof).ext hx2
    have hmk : k % (fr r).length < (fr r).length := Nat.mod_lt _ (by omega)
    rcases OwnB.own_shape hom with ⟨-, h⟩ | ⟨g, cp, rfl, hg3, hg4, hcp, hcm⟩
    · rw [h] at hml; simp at hml
    unfold maxLen at hcm
    have km := OwnB.bytes hom
    generalize hm : (fr r).length = m at *
    have HM := Lib.hid hm
    clear hm
    generalize hq : (frs pre).length = q at *
    have HQ := Lib.hid hq
    clear hq
    have hm9 : 9 ≤ m := by omega
    have hm2056 : m ≤ 2056 := by omega
    clear hml
    have hz : ¬ ((m : Int) = 0) := by omega
    have hd0 : ((m : Int) == 0) = false := by simp; omega
    have hcast : Hid ((k : Int) % (m : Int) = ((k % m : Nat) : Int)) := by show _ = _; omega
    generalize hj : k % m = j at *
    have HJ := Lib.hid hj
    clear hj
    have ej : 0 ≤ ((k : Int) % (m : Int)) ∧ ((k : Int) % (m : Int)).toNat = j := by rw [hcast.out]; omega
    have EJ := Lib.hid ej
    clear ej
    have hcl : ((fr r).take j).length = j := by rw [List.length_take, HM.out]; omega
    have h9a : ([] : List UInt8).length + (frs pre).length ≤ 140737488355328 := by rw [HQ.out]; simp; omega
    have h9b : (frs pre).length + ((fr r).take j).length ≤ 140737488355328 := by rw [HQ.out, hcl]; omega
    clear hcl
    go_wp2_with (first | (refine cutB (.tmp 43) none (some (.tmp 48)) 0 j rfl rfl km rfl ⟨_, _, rfl, EJ.out.1, EJ.out.2⟩ (Nat.zero_le _) (by rw [HM.out]; omega) ?_; intro v49 h49; rw [List.drop_zero] at h49) | (at_builtin; refine appB (.const (.slice none 0 0)) (.tmp 51) rfl rfl w2.heap.size (OwnB.nil _ _) kf h9a (Nat.le_refl _) ?_; intro v3 w3 ho3 hg3; rw [List.nil_append] at ho3; have hx3 : Ext w2 w3 := (Ext.refl w2).mono_grown (OwnB.nil w2 w2.heap.size) (Nat.le_refl _) hg3; have k49 := h49.ext hx3; clear hg3) | (at_builtin; refine appB (.tmp 52) (.tmp 53) rfl rfl w2.heap.size ho3 k49 h9b hx3.size ?_; intro v4 w4 ho4 hg4; have hx4 : Ext w2 w4 := hx3.mono_grown ho3 (Nat.le_refl _) hg4; clear hg4))
    refine (split_any _ _ _ ho4.bytes (by rw [List.length_append, HQ.out, List.length_take, HM.out]; omega)).mono ?_
    rw [hlb.out]
    rintro e w5 ⟨vx, ux, rfl, hox, hrx, hx5⟩
    have hlx : Lists w5 vx pre := Recs.lists hrx hox
    obtain ⟨ax, cx, rfl, hcx, hmx⟩ := hlx.shape
    replace hx5 := hx4.trans hx5
    have hlo5 := hlo.ext (hx2.trans hx5)
    clear hox hrx ho3 ho4 h49 k49 hx3 hx4 hlb
    go_wp2_with fail
    refine (same_any _ _ _ pre pre hlx hlo5).mono ?_
    rintro e w6 ⟨rfl, hx6⟩
    have hs : decide (pre = pre) = true := decide_eq_true rfl
    rw [hs]
    clear hs
    replace hx6 := hx5.trans hx6
    clear hx5 hlo5 hlx
    go_upto_if 69 with fail
    go_cut [3] (fun s3 wx => ∃ D : UInt8, s3 = .int .u8 D.toNat ∧ Hid (D ≠ 0) ∧ w6 = wx)
    case first =>
      by_cases h0c : c = 0
      · subst h0c
        go_wp2
        go_meet
        exact ⟨1, rfl, by show _ ≠ _; decide, rfl⟩
      · have hd : ((c.toNat : Int) == 0) = false := by
          have : c.toNat ≠ 0 := fun h => h0c (UInt8.toNat_inj.1 h)
          simp; omega
        go_wp2
        go_meet
        exact ⟨c, rfl, h0c, rfl⟩
    case rest =>
      obtain ⟨D, rfl, hD, rfl⟩ := hcut
      have km6 := km.ext hx6
      have kf6 := kf.ext hx6
      have hi1 := Int.emod_lt_of_pos (k : Int) (show (0 : Int) < (m : Int) by omega)
      have hi0 := Int.emod_nonneg (k : Int) hz
      have e1 : 0 ≤ ((k : Int) % (m : Int)) + 1 ∧ (((k : Int) % (m : Int)) + 1).toNat = j + 1 := by have := hcast.out; omega
      have E1 := Lib.hid e1
      clear e1
      have hcl : ((fr r).take (j + 1)).length = j + 1 := by rw [List.length_take, HM.out]; omega
      have h9c : ([] : List UInt8).length + ((fr r).take (j + 1)).length ≤ 140737488355328 := by rw [hcl]; simp; omega
      have hlo2 := hlo.ext hx2
      clear km kf hlo hof hom
      go_upto_region 14 with (first | (refine cutB (.tmp 70) none (some (.tmp 76)) 0 (j + 1) rfl rfl km6 rfl ⟨_, _, rfl, E1.out.1, E1.out.2⟩ (Nat.zero_le _) (by rw [HM.out]; omega) ?_; intro v77 h77; rw [List.drop_zero] at h77) | (at_builtin; refine appB (.const (.slice none 0 0)) (.tmp 77) rfl rfl w6.heap.size (OwnB.nil _ _) h77 h9c (Nat.le_refl _) ?_; intro v7 w7 ho7 hg7; rw [List.nil_append] at ho7; have hx7 : Ext w6 w7 := (Ext.refl w6).mono_grown (OwnB.nil w6 w6.heap.size) (Nat.le_refl _) hg7; clear hg7))
      rcases OwnB.own_shape ho7 with ⟨-, h⟩ | ⟨g7, cp7, rfl, hg73, hg74, hcp7, hcm7⟩
      · rw [h] at hcl; simp at hcl
      rw [hcl] at ho7 hcp7 ⊢
      unfold maxLen at hcm7
      have hjl : j < ((fr r).take (j + 1)).length := by rw [hcl]; omega
      obtain ⟨x, hx, hcell, hfr⟩ := ho7.get hjl
      have hset := ho7.set hjl (x ^^^ D)
      have hjf : j < (fr r).length := by rw [HM.out]; exact hmk
      have hxj : x = (fr r)[j] := by
        rw [List.getElem?_take, if_pos (by omega), List.getElem?_eq_getElem hjf] at hx
        exact (Option.some.inj hx).symm
      rw [take_set _ _ _ hjf] at hset
      have hlt2 : Hid (splitF (frs pre ++ ((fr r).take j ++ [x ^^^ D])) = (pre, (frs pre).length)) := splitF_torn pre _ hg (torn_none r hgr j _ hjf (by rw [hxj]; exact xor_ne hD.out))
      rw [HQ.out] at hlt2
      have hlen2 : ((fr r).take j ++ [x ^^^ D]).length = j + 1 := by rw [List.length_append, List.length_take, HM.out]; simp; omega
      generalize (fr r).take j ++ [x ^^^ D] = T at *
      have hE := hx7.setCell (p := ⟨g7, j, none⟩) hg73 (.int .u8 ((x ^^^ D).toNat : Int))
      have hval := Lib.hid (turn3_val x D)
      have hc1 := byte_lt x
      have hd1 := byte_lt D
      have kf8 := kf6.ext hE
      have kT := hset.bytes
      generalize hW8 : w7.setCell ⟨g7, j, none⟩ (.int .u8 ((x ^^^ D).toNat : Int)) = w8 at *
      have HW8 := Lib.hid hW8
      clear hW8 hjl hjf hxj hx hset hcl
      go_upto_region 15 with fail
      rw [hval.out, HW8.out]
      clear hval HW8 hcell hfr hx7 ho7 kf6 km6 h9c h9b E1 hi0 hi1
      have h9b : (frs pre).length + T.length ≤ 140737488355328 := by rw [HQ.out, hlen2]; omega
      have hlen3 : (frs pre ++ T).length ≤ 52776558133248 := by rw [List.length_append, HQ.out, hlen2]; omega
      clear hlen2
      go_wp2_with (first | (at_builtin; refine appB (.const (.slice none 0 0)) (.tmp 89) rfl rfl w8.heap.size (OwnB.nil _ _) kf8 h9a (Nat.le_refl _) ?_; intro v9 w9 ho9 hg9; rw [List.nil_append] at ho9; have hx9 : Ext w8 w9 := (Ext.refl w8).mono_grown (OwnB.nil w8 w8.heap.size) (Nat.le_refl _) hg9; have kT9 := kT.ext hx9; clear hg9) | (at_builtin; refine appB (.tmp 90) (.tmp 91) rfl rfl w8.heap.size ho9 kT9 h9b hx9.size ?_; intro v10 w10 ho10 hg10; have hx10 : Ext w8 w10 := hx9.mono_grown ho9 (Nat.le_refl _) hg10; clear hg10))
      refine (split_any _ _ _ ho10.bytes hlen3).mono ?_
      rw [hlt2.out]
      rintro e w11 ⟨vy, uy, rfl, hoy, hry, hx11⟩
      have hly : Lists w11 vy pre := Recs.lists hry hoy
      obtain ⟨ay, cy, rfl, hcy, hmy⟩ := hly.shape
      replace hx11 := hx10.trans hx11
      have hlo11 := hlo2.ext (hx6.trans (hE.trans hx11))
      replace hx11 := hx1.trans (hx2.trans (hx6.trans (hE.trans hx11)))
      clear hoy hry ho9 ho10 kT kT9 hx9 hx10 hlt2 hE kf8
      go_wp2_with fail
      refine (same_any _ _ _ pre pre hly hlo11).mono ?_
      rintro e w12 ⟨rfl, hx12⟩
      have hs : decide (pre = pre) = true := decide_eq_true rfl
      rw [hs]
      clear hs
      replace hx12 := hx11.trans hx12
      clear hx11 hlo11 hly
      go_wp2_with fail
      refine (wakes11_any _).mono ?_
      rintro e w13 ⟨rfl, hx13⟩
      go_wp2_with fail
      go_ret
      exact ⟨rfl, hx12.trans hx13⟩
  · rintro e w2 ⟨vm, rfl, -, hx2⟩
    have hx := hx1.trans hx2
    by_cases hl0 : r.length = 0
    · have hp : (putR r).2 = 1 := by unfold putR; rw [if_pos hl0]
      rw [hp]
      rw [hl0]
      clear hp
      go_wp2_with fail
      refine (wakes11_any _).mono ?_
      rintro e w3 ⟨rfl, hx3⟩
      go_wp2_with fail
      go_ret
      exact ⟨rfl, hx.trans hx3⟩
    · have hgr3 : 2048 < r.length := by
        unfold Good at hgr
        omega
      have hp : (putR r).2 = 3 := by unfold putR; rw [if_neg hl0, if_pos hgr3]
      rw [hp]
      have hd0 : ((r.length : Int) == 0) = false := beq_eq_false_iff_ne.2 (by omega)
      clear hp
      go_wp2_with fail
      refine (wakes11_any _).mono ?_
      rintro e w3 ⟨rfl, hx3⟩
      go_wp2_with fail
      go_ret
      exact ⟨rfl, hx.trans hx3⟩

end Go.Proofs.Ytanlhpmebpebgaa
