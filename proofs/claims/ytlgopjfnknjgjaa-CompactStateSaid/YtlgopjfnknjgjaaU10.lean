/- partitionEqualOrdered at uint64 (60). -/
import Derived.Test.YtlgopjfnknjgjaaU9
namespace Go.Proofs.Ytlgopjfnknjgjaa
open Go.RowKit

theorem partEq_stop {a i j i2 j2 : Nat} {d : Array Nat} (hi : Sort.scanUp (fun x => !ltN d[a]! x) d j i = i2) (hj : Sort.scanDown (fun x => ltN d[a]! x) d i2 j = j2) (h : j2 < i2) : Sort.partEqLoop ltN a i j d = (i2, d) := by
  unfold Sort.partEqLoop
  simp only [hi, hj]
  rw [if_pos h]
theorem partEq_go {a i j i2 j2 : Nat} {d : Array Nat} (hi : Sort.scanUp (fun x => !ltN d[a]! x) d j i = i2) (hj : Sort.scanDown (fun x => ltN d[a]! x) d i2 j = j2) (h : ¬ j2 < i2) (g1 : i ≤ i2) (g2 : j2 ≤ j) : Sort.partEqLoop ltN a i j d = Sort.partEqLoop ltN a (i2 + 1) (j2 - 1) (Sort.swp d i2 j2) := by
  conv => lhs; unfold Sort.partEqLoop
  simp only [hi, hj]
  rw [if_neg h, dif_pos (by omega)]

set_option maxRecDepth 100000 in
set_option maxHeartbeats 64000000 in
theorem partEq_any (base g cap : Nat) (d : Array Nat) (a b p : Nat) (w : World) (ho : UO base g cap w d) (hap : a ≤ p) (hpb : p < b) (hb : b ≤ d.size) (hsz : d.size ≤ 1000000) :
    Calls Try.prog 60 #[.slice (some ⟨g, 0, none⟩) d.size cap, .int .i64 a, .int .i64 b, .int .i64 p] w fun e w' => e = .returned (.int .i64 (Sort.partitionEqual ltN d a b p).1) ∧ UOq base g cap w (Sort.partitionEqual ltN d a b p).2 w' := by
  have HO := Lib.hid ho
  have HG := Lib.hid (grown_refl w (some g))
  clear ho
  generalize hN : d.size = N at *
  have HS := Lib.hid hN
  clear hN
  obtain ⟨b1, hb1⟩ : ∃ x, x = b - 1 := ⟨_, rfl⟩
  have qb : (b : Int) - 1 = (b1 : Int) := by omega
  have hbN : b1 < N := by omega
  have hab : a ≤ b1 ∧ b1 < b := by omega
  have hpe : Sort.partitionEqual ltN d a b p = Sort.partEqLoop ltN a (a + 1) b1 (Sort.swp d a p) := by rw [hb1]; rfl
  rw [hpe]
  clear hpe
  obtain ⟨RES, hres⟩ : ∃ R, Sort.partEqLoop ltN a (a + 1) b1 (Sort.swp d a p) = R := ⟨_, rfl⟩
  rw [hres]
  have HRES := Lib.hid hres
  clear hb1 hres
  go_enter Try.func60, Try.ntmps60
  have c0 := HO.out.cell (i := a) (by rw [HS.out]; omega)
  have c1 := HO.out.cell (i := p) (by rw [HS.out]; omega)
  have z0 := HO.out.free a
  have z1 := HO.out.free p
  have hw := uO_swp HO.out (i := a) (j := p) (by rw [HS.out]; omega) (by rw [HS.out]; omega)
  have HW := Lib.hid hw
  clear hw
  have b0 : (a : Int) < (N : Int) := by omega
  have b1 : (p : Int) < (N : Int) := by omega
  obtain ⟨v', hy'⟩ := cell?_setCell_some (w := w) (p := ⟨g, a, none⟩) (x := .int .u64 d[p]!) (q := ⟨g, p, none⟩) c1
  generalize d[a]! = y0 at *
  generalize d[p]! = y1 at *
  go_upto_region 1 with fail
  go_region
  obtain ⟨h1, h2⟩ := HW.out
  have HSA1 := Lib.hid (h1.ext (Ext.refl _).drew)
  have HSA2 := Lib.hid (grown_trans (grown_trans HG.out h2) (grown_of_ext (Ext.refl _).drew))
  clear h1 h2 c0 c1 z0 z1 HW b0 b1 hy'
  generalize World.drew _ = w3 at *
  go_wp2_with fail
  go_loopw [9, 10] (fun iv jv wq => ∃ ii jj : Nat, iv = .int .i64 ii ∧ jv = .int .i64 jj ∧ a < ii ∧ a ≤ jj ∧ jj < b ∧ ii ≤ jj + 2 ∧ Hid (∃ dk : Array Nat, dk.size = N ∧ UO base g cap wq dk ∧ w.grownBy wq (some g) ∧ Sort.partEqLoop ltN a ii jj dk = RES)) (fun iv jv _ => (intOf jv).toNat + 1 - (intOf iv).toNat)
  case atStart => exact ⟨a + 1, b1, by go_num, rfl, by omega, hab.1, hab.2, by omega, _, (swp_size _ _ _).trans HS.out, HSA1.out, HSA2.out, HRES.out⟩
  case round =>
    clear HSA1 HSA2 HRES HO HG HS qb
    obtain ⟨ii, jj, rfl, rfl, ha2, hb2, hb3, hb4, hst⟩ := hrel
    obtain ⟨dk, e1, e2, e3, e4⟩ := hst.out
    have HSD := Lib.hid e1
    have HU3 := Lib.hid e2
    have HG3 := Lib.hid e3
    have HE4 := Lib.hid e4
    clear e1 e2 e3 e4 hst
    go_wp2_with fail
    obtain ⟨wU, rfl⟩ : ∃ x : World, x = wr := ⟨_, rfl⟩
    go_loopw [9] (fun v wq => ∃ i : Nat, v = .int .i64 i ∧ ii ≤ i ∧ (i = ii ∨ i ≤ jj + 1) ∧ Hid (Sort.scanUp (fun x => !ltN dk[a]! x) dk jj i = Sort.scanUp (fun x => !ltN dk[a]! x) dk jj ii) ∧ Hid (Ext wU wq)) (fun v _ => jj + 2 - (intOf v).toNat)
    case atStart => exact ⟨ii, rfl, Nat.le_refl _, .inl rfl, rfl, Ext.refl _⟩
    case round =>
      obtain ⟨i, rfl, h1, h2, hs, hx⟩ := hrel
      have ho := HU3.out.ext hx.out
      obtain ⟨x, hxv⟩ : ∃ x, dk[i]! = x := ⟨_, rfl⟩
      obtain ⟨y, hyv⟩ : ∃ y, dk[a]! = y := ⟨_, rfl⟩
      have kA := ho.cell (i := a) (by rw [HSD.out]; omega)
      rw [hyv] at kA
      have hkI : i < N → wr.cell? ⟨g, i, none⟩ = some (.int .u64 x) := fun h => by rw [← hxv]; exact ho.cell (by rw [HSD.out]; exact h)
      have X := Lib.hid hxv
      have Y := Lib.hid hyv
      clear hxv hyv ho
      obtain ⟨E, hE⟩ : ∃ E, E = (decide (i ≤ jj) && !ltN y x) := ⟨_, rfl⟩
      have HE := Lib.hid hE
      clear hE
      go_upto_region 3 with fail
      go_cut [43] from 29 to 43 (fun vL wx => vL = .bool E ∧ Ext wr wx)
      case first =>
        by_cases hij : i ≤ jj
        · have hI : decide ((i : Int) ≤ (jj : Int)) = true := decide_eq_true (by omega)
          have kI := hkI (by omega)
          have hvN : (i : Int) < (N : Int) := by omega
          have haN : (a : Int) < (N : Int) := by omega
          clear hkI
          cases hl : ltN y x with
          | true =>
            have he : E = false := by rw [HE.out, decide_eq_true hij, hl]; rfl
            subst he
            have HL := Lib.hid hl
            clear hl
            refine wp_region_facts [Fact.eq (.int .i64 i),
                Fact.eq (.int .i64 jj),
                Fact.eq (.bool true),
                Fact.eq (.bool true),
                Fact.eq (.slice (some ⟨g, 0, none⟩) N cap),
                Fact.eq (.int .i64 a),
                Fact.eq (.pointer (some ⟨g, a, none⟩)),
                Fact.eq (.int .u64 y),
                Fact.eq (.slice (some ⟨g, 0, none⟩) N cap),
                Fact.eq (.int .i64 i),
                Fact.eq (.pointer (some ⟨g, i, none⟩)),
                Fact.eq (.int .u64 x),
                Fact.eq (.bool true),
                Fact.eq (.bool false),
                Fact.eq (.bool false)]
              [[], [], [(0, 29), (1, 30)], [(2, 31)], [(3, 32)], [(3, 32)], [(4, 33), (5, 34), (3, 32)], [(6, 35), (3, 32)], [(3, 32)], [(3, 32)], [(8, 37), (9, 38), (3, 32)], [(10, 39), (3, 32)], [(7, 36), (11, 40), (3, 32)], [(12, 41), (3, 32)], [(3, 32), (13, 42)]]
              [(0, 29), (1, 30), (2, 31), (3, 32), (4, 33), (5, 34), (6, 35), (7, 36), (8, 37), (9, 38), (10, 39), (11, 40), (12, 41), (13, 42), (14, 43)] (by kernel_rfl) (by kernel_rfl) ?_ ?_
            · refine ⟨?_, ?_, ?_, ?_, ?_, ?_, ?_, ?_, ?_, ?_, ?_, ?_, ?_, ?_, ?_, trivial⟩
              · intro w1 hx1; change wpList _ _ _ _ _ _; exact ob_move rfl rfl rfl rfl rfl
              · intro w1 hx1; change wpList _ _ _ _ _ _; exact ob_move rfl rfl rfl rfl rfl
              · intro w1 hx1; rintro _ rfl; rintro _ rfl; change wpList _ _ _ _ _ _; go_wp2_with fail; exact ⟨rfl, Ext.refl _, rfl, rfl⟩
              · intro w1 hx1; rintro _ rfl; change wpList _ _ _ _ _ _; exact ob_move rfl rfl rfl rfl rfl
              · intro w1 hx1; rintro _ rfl; change wpList _ _ _ _ _ _; exact ob_move rfl rfl rfl rfl rfl
              · intro w1 hx1; rintro _ rfl; change wpList _ _ _ _ _ _; exact ob_move rfl rfl rfl rfl rfl
              · intro w1 hx1; rintro _ rfl; rintro _ rfl; rintro _ rfl; change wpList _ _ _ _ _ _; go_wp2_with fail; exact ⟨rfl, Ext.refl _, rfl, rfl⟩
              · intro w1 hx1; rintro _ rfl; rintro _ rfl; change wpList _ _ _ _ _ _; have m0 := hx1.cell kA; go_wp2_with fail; exact ⟨rfl, Ext.refl _, rfl, rfl⟩
              · intro w1 hx1; rintro _ rfl; change wpList _ _ _ _ _ _; exact ob_move rfl rfl rfl rfl rfl
              · intro w1 hx1; rintro _ rfl; change wpList _ _ _ _ _ _; exact ob_move rfl rfl rfl rfl rfl
              · intro w1 hx1; rintro _ rfl; rintro _ rfl; rintro _ rfl; change wpList _ _ _ _ _ _; go_wp2_with fail; exact ⟨rfl, Ext.refl _, rfl, rfl⟩
              · intro w1 hx1; rintro _ rfl; rintro _ rfl; change wpList _ _ _ _ _ _; have m0 := hx1.cell kI; go_wp2_with fail; exact ⟨rfl, Ext.refl _, rfl, rfl⟩
              · intro w1 hx1; rintro _ rfl; rintro _ rfl; rintro _ rfl; change wpList _ _ _ _ _ _; go_wp2_with fail; refine (less_yes HL.out _).mono ?_; rintro e w2 ⟨rfl, hx2⟩; go_wp2_with fail; exact ⟨rfl, hx2, rfl, rfl⟩
              · intro w1 hx1; rintro _ rfl; rintro _ rfl; change wpList _ _ _ _ _ _; go_wp2_with fail; exact ⟨rfl, Ext.refl _, rfl, rfl⟩
              · intro w1 hx1; rintro _ rfl; rintro _ rfl; change wpList _ _ _ _ _ _; exact ob_pick rfl rfl rfl rfl rfl rfl
            · intro w1 hx1; rintro _ rfl; rintro _ rfl; rintro _ rfl; rintro _ rfl; rintro _ rfl; rintro _ rfl; rintro _ rfl; rintro _ rfl; rintro _ rfl; rintro _ rfl; rintro _ rfl; rintro _ rfl; rintro _ rfl; rintro _ rfl; rintro _ rfl; refine depsThen_nil ?_; dsimp only; simp only [Act.put, List.setIfInBounds_toArray, List.set_cons_zero, List.set_cons_succ]
              go_wp2_with fail
              go_meet
              exact ⟨rfl, hx1⟩
          | false =>
            have he : E = true := by rw [HE.out, decide_eq_true hij, hl]; rfl
            subst he
            have HL := Lib.hid hl
            clear hl
            refine wp_region_facts [Fact.eq (.int .i64 i),
                Fact.eq (.int .i64 jj),
                Fact.eq (.bool true),
                Fact.eq (.bool true),
                Fact.eq (.slice (some ⟨g, 0, none⟩) N cap),
                Fact.eq (.int .i64 a),
                Fact.eq (.pointer (some ⟨g, a, none⟩)),
                Fact.eq (.int .u64 y),
                Fact.eq (.slice (some ⟨g, 0, none⟩) N cap),
                Fact.eq (.int .i64 i),
                Fact.eq (.pointer (some ⟨g, i, none⟩)),
                Fact.eq (.int .u64 x),
                Fact.eq (.bool false),
                Fact.eq (.bool true),
                Fact.eq (.bool true)]
              [[], [], [(0, 29), (1, 30)], [(2, 31)], [(3, 32)], [(3, 32)], [(4, 33), (5, 34), (3, 32)], [(6, 35), (3, 32)], [(3, 32)], [(3, 32)], [(8, 37), (9, 38), (3, 32)], [(10, 39), (3, 32)], [(7, 36), (11, 40), (3, 32)], [(12, 41), (3, 32)], [(3, 32), (13, 42)]]
              [(0, 29), (1, 30), (2, 31), (3, 32), (4, 33), (5, 34), (6, 35), (7, 36), (8, 37), (9, 38), (10, 39), (11, 40), (12, 41), (13, 42), (14, 43)] (by kernel_rfl) (by kernel_rfl) ?_ ?_
            · refine ⟨?_, ?_, ?_, ?_, ?_, ?_, ?_, ?_, ?_, ?_, ?_, ?_, ?_, ?_, ?_, trivial⟩
              · intro w1 hx1; change wpList _ _ _ _ _ _; exact ob_move rfl rfl rfl rfl rfl
              · intro w1 hx1; change wpList _ _ _ _ _ _; exact ob_move rfl rfl rfl rfl rfl
              · intro w1 hx1; rintro _ rfl; rintro _ rfl; change wpList _ _ _ _ _ _; go_wp2_with fail; exact ⟨rfl, Ext.refl _, rfl, rfl⟩
              · intro w1 hx1; rintro _ rfl; change wpList _ _ _ _ _ _; exact ob_move rfl rfl rfl rfl rfl
              · intro w1 hx1; rintro _ rfl; change wpList _ _ _ _ _ _; exact ob_move rfl rfl rfl rfl rfl
              · intro w1 hx1; rintro _ rfl; change wpList _ _ _ _ _ _; exact ob_move rfl rfl rfl rfl rfl
              · intro w1 hx1; rintro _ rfl; rintro _ rfl; rintro _ rfl; change wpList _ _ _ _ _ _; go_wp2_with fail; exact ⟨rfl, Ext.refl _, rfl, rfl⟩
              · intro w1 hx1; rintro _ rfl; rintro _ rfl; change wpList _ _ _ _ _ _; have m0 := hx1.cell kA; go_wp2_with fail; exact ⟨rfl, Ext.refl _, rfl, rfl⟩
              · intro w1 hx1; rintro _ rfl; change wpList _ _ _ _ _ _; exact ob_move rfl rfl rfl rfl rfl
              · intro w1 hx1; rintro _ rfl; change wpList _ _ _ _ _ _; exact ob_move rfl rfl rfl rfl rfl
              · intro w1 hx1; rintro _ rfl; rintro _ rfl; rintro _ rfl; change wpList _ _ _ _ _ _; go_wp2_with fail; exact ⟨rfl, Ext.refl _, rfl, rfl⟩
              · intro w1 hx1; rintro _ rfl; rintro _ rfl; change wpList _ _ _ _ _ _; have m0 := hx1.cell kI; go_wp2_with fail; exact ⟨rfl, Ext.refl _, rfl, rfl⟩
              · intro w1 hx1; rintro _ rfl; rintro _ rfl; rintro _ rfl; change wpList _ _ _ _ _ _; go_wp2_with fail; refine (less_no HL.out _).mono ?_; rintro e w2 ⟨rfl, hx2⟩; go_wp2_with fail; exact ⟨rfl, hx2, rfl, rfl⟩
              · intro w1 hx1; rintro _ rfl; rintro _ rfl; change wpList _ _ _ _ _ _; go_wp2_with fail; exact ⟨rfl, Ext.refl _, rfl, rfl⟩
              · intro w1 hx1; rintro _ rfl; rintro _ rfl; change wpList _ _ _ _ _ _; exact ob_pick rfl rfl rfl rfl rfl rfl
            · intro w1 hx1; rintro _ rfl; rintro _ rfl; rintro _ rfl; rintro _ rfl; rintro _ rfl; rintro _ rfl; rintro _ rfl; rintro _ rfl; rintro _ rfl; rintro _ rfl; rintro _ rfl; rintro _ rfl; rintro _ rfl; rintro _ rfl; rintro _ rfl; refine depsThen_nil ?_; dsimp only; simp only [Act.put, List.setIfInBounds_toArray, List.set_cons_zero, List.set_cons_succ]
              go_wp2_with fail
              go_meet
              exact ⟨rfl, hx1⟩
        · have hI : decide ((i : Int) ≤ (jj : Int)) = false := decide_eq_false (by omega)
          have he : E = false := by rw [HE.out, decide_eq_false hij]; rfl
          subst he
          clear hkI
          refine wp_region_facts [Fact.eq (.int .i64 i),
              Fact.eq (.int .i64 jj),
              Fact.eq (.bool false),
              Fact.eq (.bool false),
              Fact.eq undef,
              Fact.eq undef,
              Fact.eq undef,
              Fact.eq undef,
              Fact.eq undef,
              Fact.eq undef,
              Fact.eq undef,
              Fact.eq undef,
              Fact.eq undef,
              Fact.eq undef,
              Fact.eq (.bool false)]
            [[], [], [(0, 29), (1, 30)], [(2, 31)], [(3, 32)], [(3, 32)], [(4, 33), (5, 34), (3, 32)], [(6, 35), (3, 32)], [(3, 32)], [(3, 32)], [(8, 37), (9, 38), (3, 32)], [(10, 39), (3, 32)], [(7, 36), (11, 40), (3, 32)], [(12, 41), (3, 32)], [(3, 32), (13, 42)]]
            [(0, 29), (1, 30), (2, 31), (3, 32), (4, 33), (5, 34), (6, 35), (7, 36), (8, 37), (9, 38), (10, 39), (11, 40), (12, 41), (13, 42), (14, 43)] (by kernel_rfl) (by kernel_rfl) ?_ ?_
          · refine ⟨?_, ?_, ?_, ?_, ?_, ?_, ?_, ?_, ?_, ?_, ?_, ?_, ?_, ?_, ?_, trivial⟩
            · intro w1 hx1; change wpList _ _ _ _ _ _; exact ob_move rfl rfl rfl rfl rfl
            · intro w1 hx1; change wpList _ _ _ _ _ _; exact ob_move rfl rfl rfl rfl rfl
            · intro w1 hx1; rintro _ rfl; rintro _ rfl; change wpList _ _ _ _ _ _; go_wp2_with fail; exact ⟨rfl, Ext.refl _, rfl, rfl⟩
            · intro w1 hx1; rintro _ rfl; change wpList _ _ _ _ _ _; exact ob_move rfl rfl rfl rfl rfl
            · intro w1 hx1; rintro _ rfl; change wpList _ _ _ _ _ _; exact ob_skip rfl rfl rfl rfl
            · intro w1 hx1; rintro _ rfl; change wpList _ _ _ _ _ _; exact ob_skip rfl rfl rfl rfl
            · intro w1 hx1; rintro _ rfl; rintro _ rfl; rintro _ rfl; change wpList _ _ _ _ _ _; exact ob_skip rfl rfl rfl rfl
            · intro w1 hx1; rintro _ rfl; rintro _ rfl; change wpList _ _ _ _ _ _; exact ob_skip rfl rfl rfl rfl
            · intro w1 hx1; rintro _ rfl; change wpList _ _ _ _ _ _; exact ob_skip rfl rfl rfl rfl
            · intro w1 hx1; rintro _ rfl; change wpList _ _ _ _ _ _; exact ob_skip rfl rfl rfl rfl
            · intro w1 hx1; rintro _ rfl; rintro _ rfl; rintro _ rfl; change wpList _ _ _ _ _ _; exact ob_skip rfl rfl rfl rfl
            · intro w1 hx1; rintro _ rfl; rintro _ rfl; change wpList _ _ _ _ _ _; exact ob_skip rfl rfl rfl rfl
            · intro w1 hx1; rintro _ rfl; rintro _ rfl; rintro _ rfl; change wpList _ _ _ _ _ _; exact ob_skip rfl rfl rfl rfl
            · intro w1 hx1; rintro _ rfl; rintro _ rfl; change wpList _ _ _ _ _ _; exact ob_skip rfl rfl rfl rfl
            · intro w1 hx1; rintro _ rfl; rintro _ rfl; change wpList _ _ _ _ _ _; exact ob_pick rfl rfl rfl rfl rfl rfl
          · intro w1 hx1; rintro _ rfl; rintro _ rfl; rintro _ rfl; rintro _ rfl; rintro _ rfl; rintro _ rfl; rintro _ rfl; rintro _ rfl; rintro _ rfl; rintro _ rfl; rintro _ rfl; rintro _ rfl; rintro _ rfl; rintro _ rfl; rintro _ rfl; refine depsThen_nil ?_; dsimp only; simp only [Act.put, List.setIfInBounds_toArray, List.set_cons_zero, List.set_cons_succ]
            go_wp2_with fail
            go_meet
            exact ⟨rfl, hx1⟩
      case rest =>
        obtain ⟨rfl, hx1⟩ := hcut
        have HXN := Lib.hid (hx.out.trans hx1)
        clear hx1 hx
        cases E with
        | true =>
          have hp := HE.out.symm
          simp only [Bool.and_eq_true, decide_eq_true_eq] at hp
          have HS2 : Hid (Sort.scanUp (fun x => !ltN dk[a]! x) dk jj (i + 1) = Sort.scanUp (fun x => !ltN dk[a]! x) dk jj ii) := by
            show _ = _
            rw [← hs.out]
            exact (scanUp_go hp.1 (by rw [X.out, Y.out]; exact hp.2)).symm
          have hq := hp.1
          clear hp hs HE X Y
          go_wp2_with fail
          go_roundw
          case rel => exact ⟨i + 1, by go_num, by omega, .inr (by omega), HS2, HXN⟩
          case measure => simp [intOf]; omega
        | false =>
          have HI2 : Hid (Sort.scanUp (fun x => !ltN dk[a]! x) dk jj ii = i) := by
            show _ = _
            rw [← hs.out]
            refine scanUp_stop (fun hq => ?_)
            have hp := HE.out
            rw [X.out, Y.out] at hq
            rw [decide_eq_true hq.1, hq.2] at hp
            cases hp
          clear hs HE X Y
          have HUT := Lib.hid (HU3.out.ext HXN.out)
          have HGT := Lib.hid (grown_trans HG3.out (grown_of_ext HXN.out))
          clear HXN
          go_wp2_with fail
          obtain ⟨wV, rfl⟩ : ∃ x : World, x = wc := ⟨_, rfl⟩
          go_loopw [10] (fun v wq => ∃ j : Nat, v = .int .i64 j ∧ (j = jj ∨ i ≤ j + 1) ∧ j ≤ jj ∧ Hid (Sort.scanDown (fun x => ltN dk[a]! x) dk i j = Sort.scanDown (fun x => ltN dk[a]! x) dk i jj) ∧ Hid (Ext wV wq)) (fun v _ => (intOf v).toNat)
          case atStart => exact ⟨jj, rfl, .inl rfl, Nat.le_refl _, rfl, Ext.refl _⟩
          case round =>
            obtain ⟨j, rfl, h3, h4, hs, hx⟩ := hrel
            have ho := HUT.out.ext hx.out
            obtain ⟨x, hxv⟩ : ∃ x, dk[j]! = x := ⟨_, rfl⟩
            obtain ⟨y, hyv⟩ : ∃ y, dk[a]! = y := ⟨_, rfl⟩
            have kA := ho.cell (i := a) (by rw [HSD.out]; omega)
            rw [hyv] at kA
            have hkI : j < N → wr.cell? ⟨g, j, none⟩ = some (.int .u64 x) := fun h => by rw [← hxv]; exact ho.cell (by rw [HSD.out]; exact h)
            have X := Lib.hid hxv
            have Y := Lib.hid hyv
            clear hxv hyv ho
            obtain ⟨E, hE⟩ : ∃ E, E = (decide (i ≤ j) && ltN y x) := ⟨_, rfl⟩
            have HE := Lib.hid hE
            clear hE
            go_upto_region 5 with fail
            go_cut [59] from 46 to 59 (fun vL wx => vL = .bool E ∧ Ext wr wx)
            case first =>
              by_cases hij : i ≤ j
              · have hI : decide ((i : Int) ≤ (j : Int)) = true := decide_eq_true (by omega)
                have kI := hkI (by omega)
                have hvN : (j : Int) < (N : Int) := by omega
                have haN : (a : Int) < (N : Int) := by omega
                clear hkI
                cases hl : ltN y x with
                | true =>
                  have he : E = true := by rw [HE.out, decide_eq_true hij, hl]; rfl
                  subst he
                  have HL := Lib.hid hl
                  clear hl
                  refine wp_region_facts [Fact.eq (.int .i64 i),
                      Fact.eq (.int .i64 j),
                      Fact.eq (.bool true),
                      Fact.eq (.bool true),
                      Fact.eq (.slice (some ⟨g, 0, none⟩) N cap),
                      Fact.eq (.int .i64 a),
                      Fact.eq (.pointer (some ⟨g, a, none⟩)),
                      Fact.eq (.int .u64 y),
                      Fact.eq (.slice (some ⟨g, 0, none⟩) N cap),
                      Fact.eq (.int .i64 j),
                      Fact.eq (.pointer (some ⟨g, j, none⟩)),
                      Fact.eq (.int .u64 x),
                      Fact.eq (.bool true),
                      Fact.eq (.bool true)]
                    [[], [], [(0, 46), (1, 47)], [(2, 48)], [(3, 49)], [(3, 49)], [(4, 50), (5, 51), (3, 49)], [(6, 52), (3, 49)], [(3, 49)], [(3, 49)], [(8, 54), (9, 55), (3, 49)], [(10, 56), (3, 49)], [(7, 53), (11, 57), (3, 49)], [(3, 49), (12, 58)]]
                    [(0, 46), (1, 47), (2, 48), (3, 49), (4, 50), (5, 51), (6, 52), (7, 53), (8, 54), (9, 55), (10, 56), (11, 57), (12, 58), (13, 59)] (by kernel_rfl) (by kernel_rfl) ?_ ?_
                  · refine ⟨?_, ?_, ?_, ?_, ?_, ?_, ?_, ?_, ?_, ?_, ?_, ?_, ?_, ?_, trivial⟩
                    · intro w1 hx1; change wpList _ _ _ _ _ _; exact ob_move rfl rfl rfl rfl rfl
                    · intro w1 hx1; change wpList _ _ _ _ _ _; exact ob_move rfl rfl rfl rfl rfl
                    · intro w1 hx1; rintro _ rfl; rintro _ rfl; change wpList _ _ _ _ _ _; go_wp2_with fail; exact ⟨rfl, Ext.refl _, rfl, rfl⟩
                    · intro w1 hx1; rintro _ rfl; change wpList _ _ _ _ _ _; exact ob_move rfl rfl rfl rfl rfl
                    · intro w1 hx1; rintro _ rfl; change wpList _ _ _ _ _ _; exact ob_move rfl rfl rfl rfl rfl
                    · intro w1 hx1; rintro _ rfl; change wpList _ _ _ _ _ _; exact ob_move rfl rfl rfl rfl rfl
                    · intro w1 hx1; rintro _ rfl; rintro _ rfl; rintro _ rfl; change wpList _ _ _ _ _ _; go_wp2_with fail; exact ⟨rfl, Ext.refl _, rfl, rfl⟩
                    · intro w1 hx1; rintro _ rfl; rintro _ rfl; change wpList _ _ _ _ _ _; have m0 := hx1.cell kA; go_wp2_with fail; exact ⟨rfl, Ext.refl _, rfl, rfl⟩
                    · intro w1 hx1; rintro _ rfl; change wpList _ _ _ _ _ _; exact ob_move rfl rfl rfl rfl rfl
                    · intro w1 hx1; rintro _ rfl; change wpList _ _ _ _ _ _; exact ob_move rfl rfl rfl rfl rfl
                    · intro w1 hx1; rintro _ rfl; rintro _ rfl; rintro _ rfl; change wpList _ _ _ _ _ _; go_wp2_with fail; exact ⟨rfl, Ext.refl _, rfl, rfl⟩
                    · intro w1 hx1; rintro _ rfl; rintro _ rfl; change wpList _ _ _ _ _ _; have m0 := hx1.cell kI; go_wp2_with fail; exact ⟨rfl, Ext.refl _, rfl, rfl⟩
                    · intro w1 hx1; rintro _ rfl; rintro _ rfl; rintro _ rfl; change wpList _ _ _ _ _ _; go_wp2_with fail; refine (less_yes HL.out _).mono ?_; rintro e w2 ⟨rfl, hx2⟩; go_wp2_with fail; exact ⟨rfl, hx2, rfl, rfl⟩
                    · intro w1 hx1; rintro _ rfl; rintro _ rfl; change wpList _ _ _ _ _ _; exact ob_pick rfl rfl rfl rfl rfl rfl
                  · intro w1 hx1; rintro _ rfl; rintro _ rfl; rintro _ rfl; rintro _ rfl; rintro _ rfl; rintro _ rfl; rintro _ rfl; rintro _ rfl; rintro _ rfl; rintro _ rfl; rintro _ rfl; rintro _ rfl; rintro _ rfl; rintro _ rfl; refine depsThen_nil ?_; dsimp only; simp only [Act.put, List.setIfInBounds_toArray, List.set_cons_zero, List.set_cons_succ]
                    go_wp2_with fail
                    go_meet
                    exact ⟨rfl, hx1⟩
                | false =>
                  have he : E = false := by rw [HE.out, decide_eq_true hij, hl]; rfl
                  subst he
                  have HL := Lib.hid hl
                  clear hl
                  refine wp_region_facts [Fact.eq (.int .i64 i),
                      Fact.eq (.int .i64 j),
                      Fact.eq (.bool true),
                      Fact.eq (.bool true),
                      Fact.eq (.slice (some ⟨g, 0, none⟩) N cap),
                      Fact.eq (.int .i64 a),
                      Fact.eq (.pointer (some ⟨g, a, none⟩)),
                      Fact.eq (.int .u64 y),
                      Fact.eq (.slice (some ⟨g, 0, none⟩) N cap),
                      Fact.eq (.int .i64 j),
                      Fact.eq (.pointer (some ⟨g, j, none⟩)),
                      Fact.eq (.int .u64 x),
                      Fact.eq (.bool false),
                      Fact.eq (.bool false)]
                    [[], [], [(0, 46), (1, 47)], [(2, 48)], [(3, 49)], [(3, 49)], [(4, 50), (5, 51), (3, 49)], [(6, 52), (3, 49)], [(3, 49)], [(3, 49)], [(8, 54), (9, 55), (3, 49)], [(10, 56), (3, 49)], [(7, 53), (11, 57), (3, 49)], [(3, 49), (12, 58)]]
                    [(0, 46), (1, 47), (2, 48), (3, 49), (4, 50), (5, 51), (6, 52), (7, 53), (8, 54), (9, 55), (10, 56), (11, 57), (12, 58), (13, 59)] (by kernel_rfl) (by kernel_rfl) ?_ ?_
                  · refine ⟨?_, ?_, ?_, ?_, ?_, ?_, ?_, ?_, ?_, ?_, ?_, ?_, ?_, ?_, trivial⟩
                    · intro w1 hx1; change wpList _ _ _ _ _ _; exact ob_move rfl rfl rfl rfl rfl
                    · intro w1 hx1; change wpList _ _ _ _ _ _; exact ob_move rfl rfl rfl rfl rfl
                    · intro w1 hx1; rintro _ rfl; rintro _ rfl; change wpList _ _ _ _ _ _; go_wp2_with fail; exact ⟨rfl, Ext.refl _, rfl, rfl⟩
                    · intro w1 hx1; rintro _ rfl; change wpList _ _ _ _ _ _; exact ob_move rfl rfl rfl rfl rfl
                    · intro w1 hx1; rintro _ rfl; change wpList _ _ _ _ _ _; exact ob_move rfl rfl rfl rfl rfl
                    · intro w1 hx1; rintro _ rfl; change wpList _ _ _ _ _ _; exact ob_move rfl rfl rfl rfl rfl
                    · intro w1 hx1; rintro _ rfl; rintro _ rfl; rintro _ rfl; change wpList _ _ _ _ _ _; go_wp2_with fail; exact ⟨rfl, Ext.refl _, rfl, rfl⟩
                    · intro w1 hx1; rintro _ rfl; rintro _ rfl; change wpList _ _ _ _ _ _; have m0 := hx1.cell kA; go_wp2_with fail; exact ⟨rfl, Ext.refl _, rfl, rfl⟩
                    · intro w1 hx1; rintro _ rfl; change wpList _ _ _ _ _ _; exact ob_move rfl rfl rfl rfl rfl
                    · intro w1 hx1; rintro _ rfl; change wpList _ _ _ _ _ _; exact ob_move rfl rfl rfl rfl rfl
                    · intro w1 hx1; rintro _ rfl; rintro _ rfl; rintro _ rfl; change wpList _ _ _ _ _ _; go_wp2_with fail; exact ⟨rfl, Ext.refl _, rfl, rfl⟩
                    · intro w1 hx1; rintro _ rfl; rintro _ rfl; change wpList _ _ _ _ _ _; have m0 := hx1.cell kI; go_wp2_with fail; exact ⟨rfl, Ext.refl _, rfl, rfl⟩
                    · intro w1 hx1; rintro _ rfl; rintro _ rfl; rintro _ rfl; change wpList _ _ _ _ _ _; go_wp2_with fail; refine (less_no HL.out _).mono ?_; rintro e w2 ⟨rfl, hx2⟩; go_wp2_with fail; exact ⟨rfl, hx2, rfl, rfl⟩
                    · intro w1 hx1; rintro _ rfl; rintro _ rfl; change wpList _ _ _ _ _ _; exact ob_pick rfl rfl rfl rfl rfl rfl
                  · intro w1 hx1; rintro _ rfl; rintro _ rfl; rintro _ rfl; rintro _ rfl; rintro _ rfl; rintro _ rfl; rintro _ rfl; rintro _ rfl; rintro _ rfl; rintro _ rfl; rintro _ rfl; rintro _ rfl; rintro _ rfl; rintro _ rfl; refine depsThen_nil ?_; dsimp only; simp only [Act.put, List.setIfInBounds_toArray, List.set_cons_zero, List.set_cons_succ]
                    go_wp2_with fail
                    go_meet
                    exact ⟨rfl, hx1⟩
              · have hI : decide ((i : Int) ≤ (j : Int)) = false := decide_eq_false (by omega)
                have he : E = false := by rw [HE.out, decide_eq_false hij]; rfl
                subst he
                clear hkI
                refine wp_region_facts [Fact.eq (.int .i64 i),
                    Fact.eq (.int .i64 j),
                    Fact.eq (.bool false),
                    Fact.eq (.bool false),
                    Fact.eq undef,
                    Fact.eq undef,
                    Fact.eq undef,
                    Fact.eq undef,
                    Fact.eq undef,
                    Fact.eq undef,
                    Fact.eq undef,
                    Fact.eq undef,
                    Fact.eq undef,
                    Fact.eq (.bool false)]
                  [[], [], [(0, 46), (1, 47)], [(2, 48)], [(3, 49)], [(3, 49)], [(4, 50), (5, 51), (3, 49)], [(6, 52), (3, 49)], [(3, 49)], [(3, 49)], [(8, 54), (9, 55), (3, 49)], [(10, 56), (3, 49)], [(7, 53), (11, 57), (3, 49)], [(3, 49), (12, 58)]]
                  [(0, 46), (1, 47), (2, 48), (3, 49), (4, 50), (5, 51), (6, 52), (7, 53), (8, 54), (9, 55), (10, 56), (11, 57), (12, 58), (13, 59)] (by kernel_rfl) (by kernel_rfl) ?_ ?_
                · refine ⟨?_, ?_, ?_, ?_, ?_, ?_, ?_, ?_, ?_, ?_, ?_, ?_, ?_, ?_, trivial⟩
                  · intro w1 hx1; change wpList _ _ _ _ _ _; exact ob_move rfl rfl rfl rfl rfl
                  · intro w1 hx1; change wpList _ _ _ _ _ _; exact ob_move rfl rfl rfl rfl rfl
                  · intro w1 hx1; rintro _ rfl; rintro _ rfl; change wpList _ _ _ _ _ _; go_wp2_with fail; exact ⟨rfl, Ext.refl _, rfl, rfl⟩
                  · intro w1 hx1; rintro _ rfl; change wpList _ _ _ _ _ _; exact ob_move rfl rfl rfl rfl rfl
                  · intro w1 hx1; rintro _ rfl; change wpList _ _ _ _ _ _; exact ob_skip rfl rfl rfl rfl
                  · intro w1 hx1; rintro _ rfl; change wpList _ _ _ _ _ _; exact ob_skip rfl rfl rfl rfl
                  · intro w1 hx1; rintro _ rfl; rintro _ rfl; rintro _ rfl; change wpList _ _ _ _ _ _; exact ob_skip rfl rfl rfl rfl
                  · intro w1 hx1; rintro _ rfl; rintro _ rfl; change wpList _ _ _ _ _ _; exact ob_skip rfl rfl rfl rfl
                  · intro w1 hx1; rintro _ rfl; change wpList _ _ _ _ _ _; exact ob_skip rfl rfl rfl rfl
                  · intro w1 hx1; rintro _ rfl; change wpList _ _ _ _ _ _; exact ob_skip rfl rfl rfl rfl
                  · intro w1 hx1; rintro _ rfl; rintro _ rfl; rintro _ rfl; change wpList _ _ _ _ _ _; exact ob_skip rfl rfl rfl rfl
                  · intro w1 hx1; rintro _ rfl; rintro _ rfl; change wpList _ _ _ _ _ _; exact ob_skip rfl rfl rfl rfl
                  · intro w1 hx1; rintro _ rfl; rintro _ rfl; rintro _ rfl; change wpList _ _ _ _ _ _; exact ob_skip rfl rfl rfl rfl
                  · intro w1 hx1; rintro _ rfl; rintro _ rfl; change wpList _ _ _ _ _ _; exact ob_pick rfl rfl rfl rfl rfl rfl
                · intro w1 hx1; rintro _ rfl; rintro _ rfl; rintro _ rfl; rintro _ rfl; rintro _ rfl; rintro _ rfl; rintro _ rfl; rintro _ rfl; rintro _ rfl; rintro _ rfl; rintro _ rfl; rintro _ rfl; rintro _ rfl; rintro _ rfl; refine depsThen_nil ?_; dsimp only; simp only [Act.put, List.setIfInBounds_toArray, List.set_cons_zero, List.set_cons_succ]
                  go_wp2_with fail
                  go_meet
                  exact ⟨rfl, hx1⟩
            case rest =>
              obtain ⟨rfl, hx1⟩ := hcut
              have HXN := Lib.hid (hx.out.trans hx1)
              clear hx1 hx
              cases E with
              | true =>
                have hp := HE.out.symm
                simp only [Bool.and_eq_true, decide_eq_true_eq] at hp
                obtain ⟨jd, hjj⟩ : ∃ jd, j = jd + 1 := ⟨j - 1, by omega⟩
                have qj : (j : Int) - 1 = (jd : Int) := by omega
                have HS2 : Hid (Sort.scanDown (fun x => ltN dk[a]! x) dk i jd = Sort.scanDown (fun x => ltN dk[a]! x) dk i jj) := by
                  show _ = _
                  rw [← hs.out]
                  exact (scanDown_go hp.1 hjj (by rw [X.out, Y.out]; exact hp.2)).symm
                have hq := hp.1
                have HJJ := Lib.hid hjj
                clear hp hs HE X Y hjj
                go_wp2_with fail
                go_roundw
                case rel => exact ⟨jd, rfl, .inr (by have := HJJ.out; omega), by have := HJJ.out; omega, HS2, HXN⟩
                case measure => have := HJJ.out; simp [intOf]; omega
              | false =>
                have HJ2 : Hid (Sort.scanDown (fun x => ltN dk[a]! x) dk i jj = j) := by
                  show _ = _
                  rw [← hs.out]
                  refine scanDown_stop (fun hq => ?_)
                  have hp := HE.out
                  rw [X.out, Y.out] at hq
                  rw [decide_eq_true hq.1, hq.2] at hp
                  cases hp
                clear hs HE X Y
                have HU2 := Lib.hid (HUT.out.ext HXN.out)
                have HG2 := Lib.hid (grown_trans HGT.out (grown_of_ext HXN.out))
                clear HXN
                have hja : a ≤ j ∧ j < N := by omega
                by_cases hij : j < i
                · have hI : decide ((j : Int) < (i : Int)) = true := decide_eq_true (by omega)
                  have hR := partEq_stop HI2.out HJ2.out hij
                  rw [HE4.out] at hR
                  have HR := Lib.hid hR
                  clear hR HI2 HJ2 HE4
                  go_wp2_with fail
                  go_ret
                  exact ⟨by rw [HR.out]; rfl, by rw [HR.out]; exact ⟨HU2.out, HG2.out⟩⟩
                · have hI : decide ((j : Int) < (i : Int)) = false := decide_eq_false (by omega)
                  have hR := partEq_go HI2.out HJ2.out hij h1 h4
                  rw [HE4.out] at hR
                  have HR := Lib.hid hR
                  clear hR HI2 HJ2 HE4
                  obtain ⟨j1, hj1⟩ : ∃ x, x = j - 1 := ⟨_, rfl⟩
                  have qj1 : (j : Int) - 1 = (j1 : Int) := by omega
                  have hj1b : a ≤ j1 ∧ j1 < b ∧ i + 1 ≤ j1 + 2 := by omega
                  have HJ1 := Lib.hid hj1
                  clear hj1
                  have c0 := HU2.out.cell (i := i) (by rw [HSD.out]; omega)
                  have c1 := HU2.out.cell (i := j) (by rw [HSD.out]; omega)
                  have z0 := HU2.out.free i
                  have z1 := HU2.out.free j
                  have hw := uO_swp HU2.out (i := i) (j := j) (by rw [HSD.out]; omega) (by rw [HSD.out]; omega)
                  have HW := Lib.hid hw
                  clear hw
                  have b0 : (i : Int) < (N : Int) := by omega
                  have b1 : (j : Int) < (N : Int) := by omega
                  obtain ⟨v', hy'⟩ := cell?_setCell_some (w := wc) (p := ⟨g, i, none⟩) (x := .int .u64 dk[j]!) (q := ⟨g, j, none⟩) c1
                  generalize dk[i]! = y0 at *
                  generalize dk[j]! = y1 at *
                  go_upto_region 8 with fail
                  go_region
                  obtain ⟨h1, h2⟩ := HW.out
                  have HF1 := Lib.hid (h1.ext (Ext.refl _).drew)
                  have HF2 := Lib.hid (grown_trans (grown_trans HG2.out h2) (grown_of_ext (Ext.refl _).drew))
                  clear h1 h2 c0 c1 z0 z1 HW b0 b1 hy'
                  generalize World.drew _ = w4 at *
                  go_wp2_with fail
                  go_roundw
                  case rel => exact ⟨i + 1, j1, by go_num, rfl, by omega, hj1b.1, hj1b.2.1, hj1b.2.2, _, (swp_size _ _ _).trans HSD.out, HF1.out, HF2.out, by rw [HJ1.out]; exact HR.out.symm⟩
                  case measure => have := HJ1.out; simp [intOf]; omega
end Go.Proofs.Ytlgopjfnknjgjaa