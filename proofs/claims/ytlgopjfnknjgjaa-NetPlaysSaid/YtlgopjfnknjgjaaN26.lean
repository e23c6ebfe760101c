/- The document's Double (31); Deliver and Double by what packets say. -/
import Derived.Test.YtlgopjfnknjgjaaN25
import Derived.Test.YtlgopjfnknjgjaaK14
import Derived.Deep.RegionWith
namespace Go.Proofs.Ytlgopjfnknjgjaa
open Go.RowKit Go.MapKept

theorem rdlR (w : World) (base rb k last : Nat) (lv : Value) (R : List PK) (h : RefR w base rb k last lv R) (K : List KP) (hK : R.map kK = K) (id : Nat) (hlen : R.length ≤ 4096) :
    Calls Try.prog 30 #[.pointer (some ⟨rb, 0, none⟩), .int .u64 id] w fun e w' => ∃ pb lv' R', e = .returned (.tuple #[.agg #[.int .u64 (dI K id : Nat), .int .i64 (dF K id : Nat), .int .i64 (dT K id : Nat), pb], .int .i64 (dE K id : Nat)]) ∧ R'.map kK = lessK K id ∧ R'.Sublist R ∧ RefR w' base rb k last lv' R' ∧ RefF rb lv w w' ∧ OwnB w' base pb (dB K id) := by
  subst hK
  rcases net_first R id with hno | ⟨R1, x, R2, rfl, rfl, hf⟩
  · obtain ⟨e1, e0, e2, e3, e4⟩ := dE_no (hasK_no hno)
    rw [e0, e1, e2, e3, e4]
    refine (rdl_no w base rb k last lv R h id hno).mono ?_
    rintro e w' ⟨rfl, hx⟩
    exact ⟨_, lv, R, rfl, (lessK_no hno).symm, List.Sublist.refl _, h.ext hx, RefF.of hx, own_none _ _ _ _⟩
  · obtain ⟨e1, e0, e2, e3, e4⟩ := dE_yes (hasK_yes (L2 := R2) hf)
    rw [e0, e1, e2, e3, e4]
    refine (rdl_yes w base rb k last lv R1 R2 x h hf hlen).mono ?_
    rintro e w' ⟨rfl, ⟨lv', hn⟩, h2, ho⟩
    exact ⟨_, lv', R1 ++ R2, rfl, (lessK_yes hf).symm, List.Sublist.append (List.Sublist.refl _) (List.sublist_cons_self _ _), hn, h2, ho⟩

set_option maxRecDepth 100000 in
set_option maxHeartbeats 4000000 in
theorem rdb_no (w : World) (base rb k last : Nat) (lv : Value) (R : List PK) (h : RefR w base rb k last lv R) (id : Nat) (hno : ∀ x ∈ R, x.id ≠ id) : Calls Try.prog 31 #[.pointer (some ⟨rb, 0, none⟩), .int .u64 id] w fun e w' => e = .returned (.tuple #[.int .u64 0, .int .i64 6]) ∧ Ext w w' := by
  obtain ⟨aL, cL, rfl, _, hm⟩ := own_shape h.row
  unfold maxLen at hm
  obtain ⟨c0, c1, c2⟩ := h.cell
  have H1 := Lib.hid h
  have HNO := Lib.hid hno
  clear h c0 c1 hno
  generalize hN : R.length = N at *
  have HN := Lib.hid hN
  clear hN
  go_enter Try.func31, Try.ntmps31
  go_wp2_with fail
  go_loop [6] (fun i => ∃ j : Nat, j ≤ N ∧ i = .int .i64 j) (fun i => N - (intOf i).toNat)
  case atStart => exact ⟨0, Nat.zero_le _, rfl⟩
  case round =>
    obtain ⟨j, hj, rfl⟩ := hrel
    by_cases hjl : j < N
    · have hJ : decide ((j : Int) < (N : Int)) = true := decide_eq_true (by omega)
      have hjN : (j : Int) < (N : Int) := by omega
      have hjr : j < R.length := by rw [HN.out]; exact hjl
      obtain ⟨B, o, rfl, k0, k1, k2, k3⟩ := H1.out.at hjr
      have hne : R[j].id ≠ id := HNO.out _ (List.getElem_mem hjr)
      generalize R[j].id = idj at *
      clear k1 k2 k3
      have e1 : ((idj : Int) == (id : Int)) = false := beq_eq_false_iff_ne.2 (by omega)
      have e2 : (idj == id) = false := beq_eq_false_iff_ne.2 hne
      have e3 : decide ((idj : Int) = (id : Int)) = false := decide_eq_false (by omega)
      have e4 : decide (idj = id) = false := decide_eq_false hne
      clear hne
      go_wp2_with fail
      go_round
      case rel => exact ⟨j + 1, hjl, by go_num⟩
      case measure => simp [intOf]; omega
    · obtain rfl : j = N := by omega
      have hJ : decide ((j : Int) < (j : Int)) = false := decide_eq_false (by omega)
      go_wp2_with fail
      go_ret2
      exact ⟨rfl, Ext.refl w⟩
set_option maxRecDepth 100000 in
set_option maxHeartbeats 8000000 in
theorem rdb_yes (w : World) (base rb k last : Nat) (lv : Value) (R1 R2 : List PK) (x : PK) (h : RefR w base rb k last lv (R1 ++ x :: R2)) (hfr : ∀ y ∈ R1, y.id ≠ x.id) (hb : x.b.length ≤ 4096) (hlen : (R1 ++ x :: R2).length < 4096) (hlast : last < 1000000000) :
    Calls Try.prog 31 #[.pointer (some ⟨rb, 0, none⟩), .int .u64 x.id] w fun e w' => e = .returned (.tuple #[.int .u64 (last + 1 : Nat), .int .i64 0]) ∧ (∃ lv' hv, RefR w' base rb k (last + 1) lv' (R1 ++ x :: R2 ++ [⟨last + 1, x.fr, x.dst, x.b, hv⟩]) ∧ NewB w.heap.size hv) ∧ RefF rb lv w w' := by
  obtain ⟨aL, cL, rfl, _, hm⟩ := own_shape h.row
  unfold maxLen at hm
  have hxm : x ∈ R1 ++ x :: R2 := by simp
  obtain ⟨ax, cx, hh⟩ := OwnB.slice (h.own x hxm)
  obtain ⟨c0, c1, c2⟩ := h.cell
  have H1 := Lib.hid h
  have HFR := Lib.hid hfr
  have HH := Lib.hid hh
  have HB := Lib.hid hb
  have HLEN := Lib.hid hlen
  have HLA := Lib.hid hlast
  have HOX : Hid (OwnB w base (.slice ax x.b.length cx) x.b) := by show OwnB _ _ _ _; rw [← hh]; exact h.own x hxm
  have hNm : (R1 ++ x :: R2).length = R1.length + (R2.length + 1) := by rw [List.length_append, List.length_cons]
  generalize hN : (R1 ++ x :: R2).length = N at *
  generalize hM : R1.length = m at *
  have HN := Lib.hid hN
  have HM := Lib.hid hM
  have hget : ∀ (hq : m < (R1 ++ x :: R2).length), (R1 ++ x :: R2)[m] = x := fun hq => by subst hM; simp
  have hget2 : ∀ j (hj : j < m) (hq : j < (R1 ++ x :: R2).length), (R1 ++ x :: R2)[j] ∈ R1 := fun j hj hq => by
    rw [List.getElem_append_left (by rw [HM.out]; exact hj)]; exact List.getElem_mem _
  have HGET := Lib.hid hget
  have HGET2 := Lib.hid hget2
  have hmN : m < N := by omega
  generalize hnx : x.b.length = nx at *
  obtain ⟨l1, hl1⟩ : ∃ l1, l1 = last + 1 := ⟨_, rfl⟩
  rw [← hl1]
  have HL1 := Lib.hid hl1
  have HNX := Lib.hid hnx
  clear hNm h hh hN hM hxm hfr c0 c1 hget hget2 hb hlen hlast hl1 hnx
  go_enter Try.func31, Try.ntmps31
  go_wp2_with fail
  go_loop [6] (fun i => ∃ j : Nat, j ≤ m ∧ i = .int .i64 j) (fun i => m - (intOf i).toNat)
  case atStart => exact ⟨0, Nat.zero_le _, rfl⟩
  case round =>
    obtain ⟨j, hj, rfl⟩ := hrel
    have hJ : decide ((j : Int) < (N : Int)) = true := decide_eq_true (by omega)
    have hjN : (j : Int) < (N : Int) := by omega
    have hjr : j < (R1 ++ x :: R2).length := by rw [HN.out]; omega
    obtain ⟨B, o, rfl, k0, k1, k2, k3⟩ := H1.out.at hjr
    by_cases hjl : j < m
    · have hne : (R1 ++ x :: R2)[j].id ≠ x.id := HFR.out _ (HGET2.out j hjl hjr)
      generalize (R1 ++ x :: R2)[j].id = idj at *
      clear k1 k2 k3
      have e1 : ((idj : Int) == (x.id : Int)) = false := beq_eq_false_iff_ne.2 (by omega)
      have e2 : (idj == x.id) = false := beq_eq_false_iff_ne.2 hne
      have e3 : decide ((idj : Int) = (x.id : Int)) = false := decide_eq_false (by omega)
      have e4 : decide (idj = x.id) = false := decide_eq_false hne
      clear hne
      go_wp2_with fail
      go_round
      case rel => exact ⟨j + 1, hjl, by go_num⟩
      case measure => simp [intOf]; omega
    · obtain rfl : j = m := by omega
      rw [HGET.out hjr] at k0 k1 k2 k3
      rw [HH.out] at k3
      go_upto_region 5 with fail
      clear k0
      refine wp_region_call 25 51 52 53 [Fact.eq (.pointer (some ⟨rb, 0, none⟩)),
          Fact.eq (.pointer (some ⟨rb, 0, none⟩)),
          Fact.eq (.pointer (some ⟨rb, 0, none⟩)),
          Fact.eq (.pointer (some ⟨rb, 2, none⟩)),
          Fact.eq (.slice (some ⟨B, o, none⟩) N cL),
          Fact.eq (.int .i64 j),
          Fact.eq (.pointer (some ⟨B, o + j * 4, none⟩)),
          Fact.eq (.pointer (some ⟨B, o + j * 4 + 1, none⟩)),
          Fact.eq (.int .i64 x.fr),
          Fact.eq (.pointer (some ⟨rb, 0, none⟩)),
          Fact.eq (.pointer (some ⟨rb, 0, none⟩)),
          Fact.eq (.pointer (some ⟨rb, 2, none⟩)),
          Fact.eq (.slice (some ⟨B, o, none⟩) N cL),
          Fact.eq (.int .i64 j),
          Fact.eq (.pointer (some ⟨B, o + j * 4, none⟩)),
          Fact.eq (.pointer (some ⟨B, o + j * 4 + 2, none⟩)),
          Fact.eq (.int .i64 x.dst),
          Fact.eq (.pointer (some ⟨rb, 0, none⟩)),
          Fact.eq (.pointer (some ⟨rb, 0, none⟩)),
          Fact.eq (.pointer (some ⟨rb, 2, none⟩)),
          Fact.eq (.slice (some ⟨B, o, none⟩) N cL),
          Fact.eq (.int .i64 j),
          Fact.eq (.pointer (some ⟨B, o + j * 4, none⟩)),
          Fact.eq (.pointer (some ⟨B, o + j * 4 + 3, none⟩)),
          Fact.eq (.slice ax nx cx)]
        [[], [], [(1, 27)], [(2, 28)], [(3, 29)], [], [(4, 30), (5, 31)], [(6, 32)], [(7, 33)], [], [(9, 35)], [(10, 36)], [(11, 37)], [], [(12, 38), (13, 39)], [(14, 40)], [(15, 41)], [], [(17, 43)], [(18, 44)], [(19, 45)], [], [(20, 46), (21, 47)], [(22, 48)], [(23, 49)]]
        [(0, 26), (1, 27), (2, 28), (3, 29), (4, 30), (5, 31), (6, 32), (7, 33), (8, 34), (9, 35), (10, 36), (11, 37), (12, 38), (13, 39), (14, 40), (15, 41), (16, 42), (17, 43), (18, 44), (19, 45), (20, 46), (21, 47), (22, 48), (23, 49), (24, 50)] (by kernel_rfl) (by kernel_rfl) ?_ ?_
      · refine ⟨?_, ?_, ?_, ?_, ?_, ?_, ?_, ?_, ?_, ?_, ?_, ?_, ?_, ?_, ?_, ?_, ?_, ?_, ?_, ?_, ?_, ?_, ?_, ?_, ?_, trivial⟩
        · intro w1 hx1; change wpList _ _ _ _ _ _; exact ob_move rfl rfl rfl rfl rfl
        · intro w1 hx1; change wpList _ _ _ _ _ _; exact ob_move rfl rfl rfl rfl rfl
        · intro w1 hx1; rintro _ rfl; change wpList _ _ _ _ _ _; go_wp2_with fail; exact ⟨rfl, Ext.refl _, rfl, rfl⟩
        · intro w1 hx1; rintro _ rfl; change wpList _ _ _ _ _ _; go_wp2_with fail; exact ⟨rfl, Ext.refl _, rfl, rfl⟩
        · intro w1 hx1; rintro _ rfl; change wpList _ _ _ _ _ _; have m0 := hx1.cell c2; go_wp2_with fail; exact ⟨rfl, Ext.refl _, rfl, rfl⟩
        · intro w1 hx1; change wpList _ _ _ _ _ _; exact ob_move rfl rfl rfl rfl rfl
        · intro w1 hx1; rintro _ rfl; rintro _ rfl; change wpList _ _ _ _ _ _; go_wp2_with fail; exact ⟨rfl, Ext.refl _, rfl, rfl⟩
        · intro w1 hx1; rintro _ rfl; change wpList _ _ _ _ _ _; go_wp2_with fail; exact ⟨rfl, Ext.refl _, rfl, rfl⟩
        · intro w1 hx1; rintro _ rfl; change wpList _ _ _ _ _ _; have m0 := hx1.cell k1; go_wp2_with fail; exact ⟨rfl, Ext.refl _, rfl, rfl⟩
        · intro w1 hx1; change wpList _ _ _ _ _ _; exact ob_move rfl rfl rfl rfl rfl
        · intro w1 hx1; rintro _ rfl; change wpList _ _ _ _ _ _; go_wp2_with fail; exact ⟨rfl, Ext.refl _, rfl, rfl⟩
        · intro w1 hx1; rintro _ rfl; change wpList _ _ _ _ _ _; go_wp2_with fail; exact ⟨rfl, Ext.refl _, rfl, rfl⟩
        · intro w1 hx1; rintro _ rfl; change wpList _ _ _ _ _ _; have m0 := hx1.cell c2; go_wp2_with fail; exact ⟨rfl, Ext.refl _, rfl, rfl⟩
        · intro w1 hx1; change wpList _ _ _ _ _ _; exact ob_move rfl rfl rfl rfl rfl
        · intro w1 hx1; rintro _ rfl; rintro _ rfl; change wpList _ _ _ _ _ _; go_wp2_with fail; exact ⟨rfl, Ext.refl _, rfl, rfl⟩
        · intro w1 hx1; rintro _ rfl; change wpList _ _ _ _ _ _; go_wp2_with fail; exact ⟨rfl, Ext.refl _, rfl, rfl⟩
        · intro w1 hx1; rintro _ rfl; change wpList _ _ _ _ _ _; have m0 := hx1.cell k2; go_wp2_with fail; exact ⟨rfl, Ext.refl _, rfl, rfl⟩
        · intro w1 hx1; change wpList _ _ _ _ _ _; exact ob_move rfl rfl rfl rfl rfl
        · intro w1 hx1; rintro _ rfl; change wpList _ _ _ _ _ _; go_wp2_with fail; exact ⟨rfl, Ext.refl _, rfl, rfl⟩
        · intro w1 hx1; rintro _ rfl; change wpList _ _ _ _ _ _; go_wp2_with fail; exact ⟨rfl, Ext.refl _, rfl, rfl⟩
        · intro w1 hx1; rintro _ rfl; change wpList _ _ _ _ _ _; have m0 := hx1.cell c2; go_wp2_with fail; exact ⟨rfl, Ext.refl _, rfl, rfl⟩
        · intro w1 hx1; change wpList _ _ _ _ _ _; exact ob_move rfl rfl rfl rfl rfl
        · intro w1 hx1; rintro _ rfl; rintro _ rfl; change wpList _ _ _ _ _ _; go_wp2_with fail; exact ⟨rfl, Ext.refl _, rfl, rfl⟩
        · intro w1 hx1; rintro _ rfl; change wpList _ _ _ _ _ _; go_wp2_with fail; exact ⟨rfl, Ext.refl _, rfl, rfl⟩
        · intro w1 hx1; rintro _ rfl; change wpList _ _ _ _ _ _; have m0 := hx1.cell k3; go_wp2_with fail; exact ⟨rfl, Ext.refl _, rfl, rfl⟩
      · intro w1 hx1; rintro _ rfl; rintro _ rfl; rintro _ rfl; rintro _ rfl; rintro _ rfl; rintro _ rfl; rintro _ rfl; rintro _ rfl; rintro _ rfl; rintro _ rfl; rintro _ rfl; rintro _ rfl; rintro _ rfl; rintro _ rfl; rintro _ rfl; rintro _ rfl; rintro _ rfl; rintro _ rfl; rintro _ rfl; rintro _ rfl; rintro _ rfl; rintro _ rfl; rintro _ rfl; rintro _ rfl; rintro _ rfl; refine depsThen_nil ?_; dsimp only; simp only [Act.put, List.setIfInBounds_toArray, List.set_cons_zero, List.set_cons_succ, List.drop_succ_cons, List.drop_zero, List.take_succ_cons, List.take_zero]
        have hcall : Calls Try.prog 44 #[.pointer (some ⟨rb, 0, none⟩), .int .i64 x.fr, .int .i64 x.dst, .slice ax nx cx] w1 fun e w' => e = .returned (.tuple #[.int .u64 l1, .int .i64 0]) ∧ (∃ lv' hv, RefR w' base rb k l1 lv' (R1 ++ x :: R2 ++ [⟨l1, x.fr, x.dst, x.b, hv⟩]) ∧ NewB w1.heap.size hv) ∧ RefF rb (.slice (some ⟨B, o, none⟩) N cL) w1 w' := by
          rw [HL1.out]
          exact rout_any _ base rb k last (.slice (some ⟨B, o, none⟩) N cL) _ (H1.out.ext hx1) x.fr x.dst (.slice ax nx cx) x.b (fun w' hf => OwnB.bytes ((H1.out.ext hx1).rowF hf (show w1.ownsRow base 5 1 (.slice ax nx cx) x.b.length (bC x.b) from own_ext (show w.ownsRow base 5 1 (.slice ax nx cx) x.b.length (bC x.b) from HOX.out) hx1) (by decide) (by decide))) (by rw [HNX.out]; exact HB.out) (by rw [HN.out]; exact HLEN.out) HLA.out
        have HC := Lib.hid hcall
        have HX1 := Lib.hid hx1
        clear hcall hx1 c2 k1 k2 k3
        go_wp2_with (go_at_call 44; (with_reducible refine HC.out.mono ?_); rintro e w2 ⟨rfl, hr, hf⟩; have HR := Lib.hid hr; have HF := Lib.hid hf; clear hr hf)
        refine ⟨rfl, _, _, rfl, ?_⟩; dsimp only; simp only [Act.put, List.setIfInBounds_toArray, List.set_cons_zero, List.set_cons_succ, List.drop_succ_cons, List.drop_zero]
        go_wp2_with fail
        go_ret2
        obtain ⟨lv', hv, hr, hn⟩ := HR.out
        exact ⟨rfl, ⟨lv', hv, hr, fun g hg => Nat.le_trans HX1.out.size (hn g hg)⟩, (RefF.of HX1.out).trans HF.out⟩
theorem rdbR (w : World) (base rb k last : Nat) (lv : Value) (R : List PK) (h : RefR w base rb k last lv R) (K : List KP) (hK : R.map kK = K) (id : Nat) (hbl : ∀ x ∈ R, x.b.length ≤ 4096) (hf : R.length < 4096) (hlast : last < 1000000000) :
    Calls Try.prog 31 #[.pointer (some ⟨rb, 0, none⟩), .int .u64 id] w fun e w' => e = .returned (.tuple #[.int .u64 (aE (dE K id) last : Nat), .int .i64 (dE K id : Nat)]) ∧ (∃ lv' R', R'.map kK = moreK K (dE K id) last (dF K id) (dT K id) (dB K id) ∧ NewL w.heap.size R R' ∧ RefR w' base rb k (lE (dE K id) last) lv' R') ∧ RefF rb lv w w' := by
  subst hK
  rcases net_first R id with hno | ⟨R1, x, R2, rfl, rfl, hfr⟩
  · obtain ⟨e1, _, e2, e3, e4⟩ := dE_no (hasK_no hno)
    rw [e1, e2, e3, e4]
    refine (rdb_no w base rb k last lv R h id hno).mono ?_
    rintro e w' ⟨rfl, hx⟩
    exact ⟨rfl, ⟨lv, R, rfl, NewL.sub (List.Sublist.refl _), h.ext hx⟩, RefF.of hx⟩
  · obtain ⟨e1, _, e2, e3, e4⟩ := dE_yes (hasK_yes (L2 := R2) hfr)
    rw [e1, e2, e3, e4]
    refine (rdb_yes w base rb k last lv R1 R2 x h hfr (hbl x (by simp)) hf hlast).mono ?_
    rintro e w' ⟨rfl, ⟨lv', hv, hn, hw⟩, h2⟩
    refine ⟨rfl, ⟨lv', _, ?_, NewL.more hw, by exact hn⟩, h2⟩
    rw [List.map_append]; rfl
end Go.Proofs.Ytlgopjfnknjgjaa
