/- FrameMore, walked: whatever bytes of a bounded length it is handed it answers true and writes nothing that was there. -/
import Derived.Test.YtanlhpmebpebgaaW9
namespace Go.Proofs.Ytanlhpmebpebgaa
open Go.RowKit

theorem more_law (b c : List UInt8) : ∃ z k, splitF (b ++ c) = ((splitF b).1 ++ z, (splitF b).2 + k) ∧ splitF ((b ++ c).drop (splitF b).2) = (z, k) ∧ (splitF b).2 ≤ b.length ∧ (splitF b).2 + k ≤ b.length + c.length := by
  obtain ⟨h1, h2, t, h3, h4⟩ := split_shape b.length b (Nat.le_refl _)
  generalize (splitF b).1 = X at *
  generalize (splitF b).2 = N at *
  obtain ⟨g1, g2, t2, g3, g4⟩ := split_shape (t ++ c).length (t ++ c) (Nat.le_refl _)
  refine ⟨(splitF (t ++ c)).1, (splitF (t ++ c)).2, ?_, ?_, ?_, ?_⟩
  · have := splitF_frs X (t ++ c) h1
    rw [← List.append_assoc, ← h3, ← h2] at this
    exact this
  · rw [h3, List.append_assoc, h2, List.drop_left' rfl]
  · rw [h2]; conv => rhs; rw [h3]
    rw [List.length_append]; omega
  · have e1 : b.length = N + t.length := by conv => lhs; rw [h3]
                                            rw [List.length_append, h2]
    have e2 : t.length + c.length = (splitF (t ++ c)).2 + t2.length := by
      rw [← List.length_append]; conv => lhs; rw [g3]
      rw [List.length_append, ← g2]
    omega

theorem info22s : (Try.prog.info? 22).map (·.size) = some 1 := by kernel_rfl
theorem cutL {ops : Array Oper} {Q : Exit → Act → World → Prop} {a : Act} {w : World} {rest : List Oper} {o : Oper}
    (x : Operand) (lo hi : Option Operand) (i j : Nat) {rs : List (List UInt8)} (ho : o.op = .slice 41 x lo hi none)
    (hw : Region.wanted o (yielded ops a.tmps) = true) (hx : Lists w (a.eval x) rs)
    (hlo : BoundIs a lo 0 i) (hhi : BoundIs a hi rs.length j) (hij : i ≤ j) (hj : j ≤ rs.length)
    (h : ∀ v, Lists w v ((rs.take j).drop i) → wpList Try.prog ops Q rest (a.put o.dst v) w) : wpList Try.prog ops Q (o :: rest) a w := by
  obtain ⟨us, hr, hb⟩ := hx
  refine wpList_cut 41 22 x lo hi 1 rs.length i j us ho Try.underlying41 info22s hw hr hlo hhi hij hj fun v hv => h v ⟨(us.take j).drop i, ?_, fun k u r h1 h2 => ?_⟩
  · have e1 : ((rs.take j).drop i).length = j - i := by simp; omega
    rw [e1]
    simpa using hv
  · rw [List.getElem?_drop, List.getElem?_take] at h1 h2
    split at h1
    · rename_i hk
      rw [if_pos hk] at h2
      exact hb _ u r h1 h2
    · cases h1

set_option maxHeartbeats 1000000 in
theorem frameMore_any (w : World) (v0 v1 : Value) (b c : List UInt8) (h0 : Bytes w v0 b) (hn : b.length ≤ 20000000000000) (h1 : Bytes w v1 c) (hm : c.length ≤ 20000000000000) :
    Calls Try.prog 14 #[v0, v1] w fun e w' => e = .returned (.bool true) ∧ Ext w w' := by
  obtain ⟨z, k, l1, l2, l3, l4⟩ := more_law b c
  have L1 := Lib.hid l1; have L2 := Lib.hid l2; clear l1 l2
  generalize hX : (splitF b).1 = X at *
  generalize hN : (splitF b).2 = N at *
  have HX := Lib.hid hX; have HN := Lib.hid hN; clear hX hN
  go_enter Try.func14, Try.ntmps14
  go_wp2_with fail
  refine (split_any _ _ b h0 (by omega)).mono ?_
  rintro e w1 ⟨vx, ux, rfl, hox, hrx, hx1⟩
  rw [HX.out] at hrx
  rw [HN.out]
  have hlx := Recs.lists hrx hox
  clear hox hrx
  have k0 := h0.ext hx1
  have k1 := h1.ext hx1
  go_wp2_with (at_builtin; first | (refine appB (.const (.slice none 0 0)) (.tmp 17) rfl rfl w1.heap.size (OwnB.nil _ _) k0 (by simp; omega) (Nat.le_refl _) ?_; intro v2 w2 ho2 hg2; rw [List.nil_append] at ho2; have hx2 : Ext w1 w2 := (Ext.refl w1).mono_grown (OwnB.nil w1 w1.heap.size) (Nat.le_refl _) hg2; have k1' := k1.ext hx2; clear hg2) | (refine appB (.tmp 18) (.tmp 19) rfl rfl w1.heap.size ho2 k1' (by omega) hx2.size ?_; intro v3 w3 ho3 hg3; have hx3 : Ext w1 w3 := hx2.mono_grown ho2 (Nat.le_refl _) hg3; clear hg3))
  refine (split_any _ _ _ ho3.bytes (by rw [List.length_append]; omega)).mono ?_
  rw [L1.out]
  rintro e w4 ⟨vy, uy, rfl, hoy, hry, hx4⟩
  have hly : Lists w4 vy (X ++ z) := Recs.lists hry hoy
  replace hlx := hlx.ext (hx3.trans hx4)
  have hba := ho3.bytes.ext hx4
  replace hx4 := hx1.trans (hx3.trans hx4)
  clear hoy hry hx1 hx2 hx3 ho2 ho3 k0 k1 k1' h0 h1
  obtain ⟨ay, cy, rfl, hy1, hy2⟩ := hly.shape
  obtain ⟨ax, cx, rfl, hx1, hx2⟩ := hlx.shape
  unfold maxLen at hy2 hx2
  have hXy : X.length ≤ (X ++ z).length := by simp
  have htk : (X ++ z).take X.length = X := List.take_left' rfl
  have hdr : (X ++ z).drop X.length = z := List.drop_left' rfl
  have HTK := Lib.hid htk; have HDR := Lib.hid hdr; clear htk hdr
  have hd1 : decide (((X ++ z).length : Int) < (X.length : Int)) = false := decide_eq_false (by omega)
  have e1 : (0 : Int) ≤ (X.length : Int) ∧ ((X.length : Int)).toNat = X.length := by omega
  have E1 := Lib.hid e1; clear e1
  have e2 : (0 : Int) ≤ (N : Int) ∧ ((N : Int)).toNat = N := by omega
  have E2 := Lib.hid e2; clear e2
  have hd2 : decide (((N + k : Nat) : Int) < (N : Int)) = false := decide_eq_false (by omega)
  have hNa : N ≤ (b ++ c).length := by rw [List.length_append]; omega
  have hsum : (N : Int) + k ≤ 9223372036854775807 := by omega
  have hd1n : decide ((X ++ z).length < X.length) = false := decide_eq_false (by omega)
  generalize hya : (X ++ z).length = ny at *
  have HYA := Lib.hid hya; clear hya
  generalize hxa : X.length = nx at *
  have HXA := Lib.hid hxa; clear hxa
  generalize hM : N + k = M at *
  have HM := Lib.hid hM; clear hM
  go_wp2_with (refine cutL (.tmp 33) none (some (.tmp 35)) 0 nx rfl rfl hly rfl ⟨_, _, rfl, E1.out.1, E1.out.2⟩ (Nat.zero_le _) (by rw [HYA.out]; exact hXy) ?_; intro v36 h36; rw [List.drop_zero, HTK.out] at h36)
  refine (same_any _ _ _ X X hlx h36).mono ?_
  rintro e w5 ⟨rfl, hx5⟩
  have hs : decide (X = X) = true := decide_eq_true rfl
  rw [hs]
  replace hly := hly.ext hx5
  replace hlx := hlx.ext hx5
  replace hba := hba.ext hx5
  replace hx4 := hx4.trans hx5
  have hd2n : decide (M < N) = false := decide_eq_false (by have := HM.out; omega)
  clear hs h36 hx5
  go_wp2_with (refine cutB (.tmp 46) (some (.tmp 47)) none N (b ++ c).length rfl rfl hba ⟨_, _, rfl, E2.out.1, E2.out.2⟩ rfl hNa (Nat.le_refl _) ?_; intro v48 h48; rw [List.take_length] at h48)
  refine (split_any _ _ _ h48 (by rw [List.length_drop, List.length_append]; omega)).mono ?_
  rw [L2.out]
  rintro e w6 ⟨vz, uz, rfl, hoz, hrz, hx6⟩
  have hlz : Lists w6 vz z := Recs.lists hrz hoz
  replace hly := hly.ext hx6
  replace hx4 := hx4.trans hx6
  clear hoz hrz hx6 h48 hba hlx
  go_wp2_with (refine cutL (.tmp 53) (some (.tmp 55)) none nx (X ++ z).length rfl rfl hly ⟨_, _, rfl, E1.out.1, E1.out.2⟩ rfl (by rw [HYA.out]; exact hXy) (Nat.le_refl _) ?_; intro v56 h56; rw [List.take_length, HDR.out] at h56)
  refine (same_any _ _ _ z z hlz h56).mono ?_
  rintro e w7 ⟨rfl, hx7⟩
  have hs : decide (z = z) = true := decide_eq_true rfl
  rw [hs]
  replace hx4 := hx4.trans hx7
  have hMi : (N : Int) + k = M := by have := HM.out; omega
  clear hs h56 hx7 hly hlz
  go_wp2_with fail
  refine (wakes11_any _).mono ?_
  rintro e w8 ⟨rfl, hx8⟩
  go_wp2_with fail
  go_ret
  exact ⟨rfl, hx4.trans hx8⟩

end Go.Proofs.Ytanlhpmebpebgaa
