/- partitionOrdered at uint64 (61). -/
import Derived.Test.YtlgopjfnknjgjaaU5
import Derived.Deep.DeepCutAuto
namespace Go.Proofs.Ytlgopjfnknjgjaa
open Go.RowKit

theorem scanUp_go {p : Nat → Bool} {d : Array Nat} {j i : Nat} (h : i ≤ j) (hp : p d[i]! = true) : Sort.scanUp p d j i = Sort.scanUp p d j (i + 1) := by
  conv => lhs; unfold Sort.scanUp
  rw [if_pos (by simp [h, hp])]
theorem scanUp_stop {p : Nat → Bool} {d : Array Nat} {j i : Nat} (h : ¬ (i ≤ j ∧ p d[i]! = true)) : Sort.scanUp p d j i = i := by
  unfold Sort.scanUp
  rw [if_neg (by simpa using h)]
theorem scanDown_go {p : Nat → Bool} {d : Array Nat} {i j jj : Nat} (h : i ≤ j) (hj : j = jj + 1) (hp : p d[j]! = true) : Sort.scanDown p d i j = Sort.scanDown p d i jj := by
  subst hj
  conv => lhs; unfold Sort.scanDown
  rw [if_pos (by simp [h, hp])]
theorem scanDown_stop {p : Nat → Bool} {d : Array Nat} {i j : Nat} (h : ¬ (i ≤ j ∧ p d[j]! = true)) : Sort.scanDown p d i j = j := by
  cases j with
  | zero => rfl
  | succ j =>
    unfold Sort.scanDown
    rw [if_neg (by simpa using h)]

def upP (d : Array Nat) (a : Nat) : Nat → Bool := fun x => ltN x d[a]!
def downP (d : Array Nat) (a : Nat) : Nat → Bool := fun x => !ltN x d[a]!
theorem partLoop_stop {a i j i2 j2 : Nat} {d : Array Nat} (hi : Sort.scanUp (fun x => ltN x d[a]!) d j i = i2) (hj : Sort.scanDown (fun x => !ltN x d[a]!) d i2 j = j2) (h : j2 < i2) : Sort.partLoop ltN a i j d = (j2, d) := by
  unfold Sort.partLoop
  simp only [hi, hj]
  rw [if_pos h]
theorem partLoop_go {a i j i2 j2 : Nat} {d : Array Nat} (hi : Sort.scanUp (fun x => ltN x d[a]!) d j i = i2) (hj : Sort.scanDown (fun x => !ltN x d[a]!) d i2 j = j2) (h : ¬ j2 < i2) (g1 : i ≤ i2) (g2 : j2 ≤ j) : Sort.partLoop ltN a i j d = Sort.partLoop ltN a (i2 + 1) (j2 - 1) (Sort.swp d i2 j2) := by
  conv => lhs; unfold Sort.partLoop
  simp only [hi, hj]
  rw [if_neg h, dif_pos (by omega)]
theorem part_true {d : Array Nat} {a b p i j : Nat} (hi : Sort.scanUp (fun x => ltN x (Sort.swp d a p)[a]!) (Sort.swp d a p) (b - 1) (a + 1) = i) (hj : Sort.scanDown (fun x => !ltN x (Sort.swp d a p)[a]!) (Sort.swp d a p) i (b - 1) = j) (h : j < i) : Sort.partition ltN d a b p = (j, true, Sort.swp (Sort.swp d a p) j a) := by
  unfold Sort.partition
  simp only [hi, hj]
  rw [if_pos h]
theorem part_false {d : Array Nat} {a b p i j : Nat} (hi : Sort.scanUp (fun x => ltN x (Sort.swp d a p)[a]!) (Sort.swp d a p) (b - 1) (a + 1) = i) (hj : Sort.scanDown (fun x => !ltN x (Sort.swp d a p)[a]!) (Sort.swp d a p) i (b - 1) = j) (h : ¬ j < i) : Sort.partition ltN d a b p = ((Sort.partLoop ltN a (i + 1) (j - 1) (Sort.swp (Sort.swp d a p) i j)).1, false, Sort.swp (Sort.partLoop ltN a (i + 1) (j - 1) (Sort.swp (Sort.swp d a p) i j)).2 (Sort.partLoop ltN a (i + 1) (j - 1) (Sort.swp (Sort.swp d a p) i j)).1 a) := by
  unfold Sort.partition
  simp only [hi, hj]
  rw [if_neg h]

set_option maxRecDepth 100000 in
set_option maxHeartbeats 64000000 in
theorem part_any (base g cap : Nat) (d : Array Nat) (a b p : Nat) (w : World) (ho : UO base g cap w d) (hap : a ≤ p) (hpb : p < b) (hb : b ≤ d.size) (hsz : d.size ≤ 1000000) :
    Calls Try.prog 61 #[.slice (some ⟨g, 0, none⟩) d.size cap, .int .i64 a, .int .i64 b, .int .i64 p] w fun e w' => e = .returned (.tuple #[.int .i64 (Sort.partition ltN d a b p).1, .bool (Sort.partition ltN d a b p).2.1]) ∧ UOq base g cap w (Sort.partition ltN d a b p).2.2 w' := by
  have HO := Lib.hid ho
  have HG := Lib.hid (grown_refl w (some g))
  clear ho
  generalize hN : d.size = N at *
  have HS := Lib.hid hN
  clear hN
  obtain ⟨b1, hb1⟩ : ∃ x, x = b - 1 := ⟨_, rfl⟩
  obtain ⟨a1, ha1⟩ : ∃ x, x = a + 1 := ⟨_, rfl⟩
  have qb : (b : Int) - 1 = (b1 : Int) := by omega
  have qa : (a : Int) + 1 = (a1 : Int) := by omega
  have hbN : b1 < N := by omega
  have hab : a1 ≤ b1 + 1 := by omega
  have ha0 : a < a1 := by omega
  have HB1 := Lib.hid hb1
  have HA1 := Lib.hid ha1
  clear hb1 ha1
  go_enter Try.func61, Try.ntmps61
  have c0 := HO.out.cell (i := a) (by rw [HS.out]; omega)
  have c1 := HO.out.cell (i := p) (by rw [HS.out]; omega)
  have z0 := HO.out.free a
  have z1 := HO.out.free p
  have hw := uO_swp HO.out (i := a) (j := p) (by rw [HS.out]; omega) (by rw [HS.out]; omega)
  have HW := Lib.hid hw
  clear hw
  have b0 : (a : Int) < (N : Int) := by omega
  have b1 : (p : Int) < (N : Int) := by omega
  obtain ⟨v', hy'⟩ := cell?_setCell_some (w := w) (p := ⟨g, a, none⟩) (x := .int .u64 d[p]!) (q := ⟨g, p, none⟩) c1
  generalize d[a]! = y0 at *
  generalize d[p]! = y1 at *
  go_upto_region 1 with fail
  go_region
  obtain ⟨h1, h2⟩ := HW.out
  have HSA1 := Lib.hid (h1.ext (Ext.refl _).drew)
  have HSA2 := Lib.hid (grown_trans (grown_trans HG.out h2) (grown_of_ext (Ext.refl _).drew))
  clear h1 h2 c0 c1 z0 z1 HW b0 b1 hy'
  have HSD := Lib.hid ((swp_size d a p).trans HS.out)
  generalize hd1 : Sort.swp d a p = d1 at *
  have HD1 := Lib.hid hd1
  clear hd1
  generalize World.drew _ = w1 at *
  go_wp2_with fail
  obtain ⟨wS, rfl⟩ : ∃ x : World, x = w1 := ⟨_, rfl⟩
  go_loopw [10] (fun v wq => ∃ i : Nat, v = .int .i64 i ∧ a1 ≤ i ∧ (i = a1 ∨ i ≤ b1 + 1) ∧ Hid (Sort.scanUp (fun x => ltN x d1[a]!) d1 b1 i = Sort.scanUp (fun x => ltN x d1[a]!) d1 b1 a1) ∧ Hid (Ext wS wq)) (fun v _ => b1 + 2 - (intOf v).toNat)
  case atStart => exact ⟨a1, rfl, Nat.le_refl _, .inl rfl, rfl, Ext.refl _⟩
  case round =>
    obtain ⟨i, rfl, h1, h2, hs, hx⟩ := hrel
    have ho := HSA1.out.ext hx.out
    obtain ⟨x, hxv⟩ : ∃ x, d1[i]! = x := ⟨_, rfl⟩
    obtain ⟨y, hyv⟩ : ∃ y, d1[a]! = y := ⟨_, rfl⟩
    have kA := ho.cell (i := a) (by rw [HSD.out]; omega)
    rw [hyv] at kA
    have hkI : i < N → wr.cell? ⟨g, i, none⟩ = some (.int .u64 x) := fun h => by rw [← hxv]; exact ho.cell (by rw [HSD.out]; exact h)
    have X := Lib.hid hxv
    have Y := Lib.hid hyv
    clear hxv hyv ho
    obtain ⟨E, hE⟩ : ∃ E, E = (decide (i ≤ b1) && ltN x y) := ⟨_, rfl⟩
    have HE := Lib.hid hE
    clear hE
    go_upto_region 3 with fail
    go_cut [43] from 30 to 43 (fun vL wx => vL = .bool E ∧ Ext wr wx)
    case first =>
      by_cases hij : i ≤ b1
      · have hI : decide ((i : Int) ≤ (b1 : Int)) = true := decide_eq_true (by omega)
        have kI := hkI (by omega)
        have hvN : (i : Int) < (N : Int) := by omega
        have haN : (a : Int) < (N : Int) := by omega
        clear hkI
        cases hl : ltN x y with
        | true =>
          have he : E = true := by rw [HE.out, decide_eq_true hij, hl]; rfl
          subst he
          have HL := Lib.hid hl
          clear hl
          refine wp_region_facts [Fact.eq (.int .i64 i),
              Fact.eq (.int .i64 b1),
              Fact.eq (.bool true),
              Fact.eq (.bool true),
              Fact.eq (.slice (some ⟨g, 0, none⟩) N cap),
              Fact.eq (.int .i64 i),
              Fact.eq (.pointer (some ⟨g, i, none⟩)),
              Fact.eq (.int .u64 x),
              Fact.eq (.slice (some ⟨g, 0, none⟩) N cap),
              Fact.eq (.int .i64 a),
              Fact.eq (.pointer (some ⟨g, a, none⟩)),
              Fact.eq (.int .u64 y),
              Fact.eq (.bool true),
              Fact.eq (.bool true)]
            [[], [], [(0, 30), (1, 31)], [(2, 32)], [(3, 33)], [(3, 33)], [(4, 34), (5, 35), (3, 33)], [(6, 36), (3, 33)], [(3, 33)], [(3, 33)], [(8, 38), (9, 39), (3, 33)], [(10, 40), (3, 33)], [(7, 37), (11, 41), (3, 33)], [(3, 33), (12, 42)]]
            [(0, 30), (1, 31), (2, 32), (3, 33), (4, 34), (5, 35), (6, 36), (7, 37), (8, 38), (9, 39), (10, 40), (11, 41), (12, 42), (13, 43)] (by kernel_rfl) (by kernel_rfl) ?_ ?_
          · refine ⟨?_, ?_, ?_, ?_, ?_, ?_, ?_, ?_, ?_, ?_, ?_, ?_, ?_, ?_, trivial⟩
            · intro w1 hx1; change wpList _ _ _ _ _ _; exact ob_move rfl rfl rfl rfl rfl
            · intro w1 hx1; change wpList _ _ _ _ _ _; exact ob_move rfl rfl rfl rfl rfl
            · intro w1 hx1; rintro _ rfl; rintro _ rfl; change wpList _ _ _ _ _ _; go_wp2_with fail; exact ⟨rfl, Ext.refl _, rfl, rfl⟩
            · intro w1 hx1; rintro _ rfl; change wpList _ _ _ _ _ _; exact ob_move rfl rfl rfl rfl rfl
            · intro w1 hx1; rintro _ rfl; change wpList _ _ _ _ _ _; exact ob_move rfl rfl rfl rfl rfl
            · intro w1 hx1; rintro _ rfl; change wpList _ _ _ _ _ _; exact ob_move rfl rfl rfl rfl rfl
            · intro w1 hx1; rintro _ rfl; rintro _ rfl; rintro _ rfl; change wpList _ _ _ _ _ _; go_wp2_with fail; exact ⟨rfl, Ext.refl _, rfl, rfl⟩
            · intro w1 hx1; rintro _ rfl; rintro _ rfl; change wpList _ _ _ _ _ _; have m0 := hx1.cell kI; go_wp2_with fail; exact ⟨rfl, Ext.refl _, rfl, rfl⟩
            · intro w1 hx1; rintro _ rfl; change wpList _ _ _ _ _ _; exact ob_move rfl rfl rfl rfl rfl
            · intro w1 hx1; rintro _ rfl; change wpList _ _ _ _ _ _; exact ob_move rfl rfl rfl rfl rfl
            · intro w1 hx1; rintro _ rfl; rintro _ rfl; rintro _ rfl; change wpList _ _ _ _ _ _; go_wp2_with fail; exact ⟨rfl, Ext.refl _, rfl, rfl⟩
            · intro w1 hx1; rintro _ rfl; rintro _ rfl; change wpList _ _ _ _ _ _; have m0 := hx1.cell kA; go_wp2_with fail; exact ⟨rfl, Ext.refl _, rfl, rfl⟩
            · intro w1 hx1; rintro _ rfl; rintro _ rfl; rintro _ rfl; change wpList _ _ _ _ _ _; go_wp2_with fail; refine (less_yes HL.out _).mono ?_; rintro e w2 ⟨rfl, hx2⟩; go_wp2_with fail; exact ⟨rfl, hx2, rfl, rfl⟩
            · intro w1 hx1; rintro _ rfl; rintro _ rfl; change wpList _ _ _ _ _ _; exact ob_pick rfl rfl rfl rfl rfl rfl
          · intro w1 hx1; rintro _ rfl; rintro _ rfl; rintro _ rfl; rintro _ rfl; rintro _ rfl; rintro _ rfl; rintro _ rfl; rintro _ rfl; rintro _ rfl; rintro _ rfl; rintro _ rfl; rintro _ rfl; rintro _ rfl; rintro _ rfl; refine depsThen_nil ?_; dsimp only; simp only [Act.put, List.setIfInBounds_toArray, List.set_cons_zero, List.set_cons_succ]
            go_wp2_with fail
            go_meet
            exact ⟨rfl, hx1⟩
        | false =>
          have he : E = false := by rw [HE.out, decide_eq_true hij, hl]; rfl
          subst he
          have HL := Lib.hid hl
          clear hl
          refine wp_region_facts [Fact.eq (.int .i64 i),
              Fact.eq (.int .i64 b1),
              Fact.eq (.bool true),
              Fact.eq (.bool true),
              Fact.eq (.slice (some ⟨g, 0, none⟩) N cap),
              Fact.eq (.int .i64 i),
              Fact.eq (.pointer (some ⟨g, i, none⟩)),
              Fact.eq (.int .u64 x),
              Fact.eq (.slice (some ⟨g, 0, none⟩) N cap),
              Fact.eq (.int .i64 a),
              Fact.eq (.pointer (some ⟨g, a, none⟩)),
              Fact.eq (.int .u64 y),
              Fact.eq (.bool false),
              Fact.eq (.bool false)]
            [[], [], [(0, 30), (1, 31)], [(2, 32)], [(3, 33)], [(3, 33)], [(4, 34), (5, 35), (3, 33)], [(6, 36), (3, 33)], [(3, 33)], [(3, 33)], [(8, 38), (9, 39), (3, 33)], [(10, 40), (3, 33)], [(7, 37), (11, 41), (3, 33)], [(3, 33), (12, 42)]]
            [(0, 30), (1, 31), (2, 32), (3, 33), (4, 34), (5, 35), (6, 36), (7, 37), (8, 38), (9, 39), (10, 40), (11, 41), (12, 42), (13, 43)] (by kernel_rfl) (by kernel_rfl) ?_ ?_
          · refine ⟨?_, ?_, ?_, ?_, ?_, ?_, ?_, ?_, ?_, ?_, ?_, ?_, ?_, ?_, trivial⟩
            · intro w1 hx1; change wpList _ _ _ _ _ _; exact ob_move rfl rfl rfl rfl rfl
            · intro w1 hx1; change wpList _ _ _ _ _ _; exact ob_move rfl rfl rfl rfl rfl
            · intro w1 hx1; rintro _ rfl; rintro _ rfl; change wpList _ _ _ _ _ _; go_wp2_with fail; exact ⟨rfl, Ext.refl _, rfl, rfl⟩
            · intro w1 hx1; rintro _ rfl; change wpList _ _ _ _ _ _; exact ob_move rfl rfl rfl rfl rfl
            · intro w1 hx1; rintro _ rfl; change wpList _ _ _ _ _ _; exact ob_move rfl rfl rfl rfl rfl
            · intro w1 hx1; rintro _ rfl; change wpList _ _ _ _ _ _; exact ob_move rfl rfl rfl rfl rfl
            · intro w1 hx1; rintro _ rfl; rintro _ rfl; rintro _ rfl; change wpList _ _ _ _ _ _; go_wp2_with fail; exact ⟨rfl, Ext.refl _, rfl, rfl⟩
            · intro w1 hx1; rintro _ rfl; rintro _ rfl; change wpList _ _ _ _ _ _; have m0 := hx1.cell kI; go_wp2_with fail; exact ⟨rfl, Ext.refl _, rfl, rfl⟩
            · intro w1 hx1; rintro _ rfl; change wpList _ _ _ _ _ _; exact ob_move rfl rfl rfl rfl rfl
            · intro w1 hx1; rintro _ rfl; change wpList _ _ _ _ _ _; exact ob_move rfl rfl rfl rfl rfl
            · intro w1 hx1; rintro _ rfl; rintro _ rfl; rintro _ rfl; change wpList _ _ _ _ _ _; go_wp2_with fail; exact ⟨rfl, Ext.refl _, rfl, rfl⟩
            · intro w1 hx1; rintro _ rfl; rintro _ rfl; change wpList _ _ _ _ _ _; have m0 := hx1.cell kA; go_wp2_with fail; exact ⟨rfl, Ext.refl _, rfl, rfl⟩
            · intro w1 hx1; rintro _ rfl; rintro _ rfl; rintro _ rfl; change wpList _ _ _ _ _ _; go_wp2_with fail; refine (less_no HL.out _).mono ?_; rintro e w2 ⟨rfl, hx2⟩; go_wp2_with fail; exact ⟨rfl, hx2, rfl, rfl⟩
            · intro w1 hx1; rintro _ rfl; rintro _ rfl; change wpList _ _ _ _ _ _; exact ob_pick rfl rfl rfl rfl rfl rfl
          · intro w1 hx1; rintro _ rfl; rintro _ rfl; rintro _ rfl; rintro _ rfl; rintro _ rfl; rintro _ rfl; rintro _ rfl; rintro _ rfl; rintro _ rfl; rintro _ rfl; rintro _ rfl; rintro _ rfl; rintro _ rfl; rintro _ rfl; refine depsThen_nil ?_; dsimp only; simp only [Act.put, List.setIfInBounds_toArray, List.set_cons_zero, List.set_cons_succ]
            go_wp2_with fail
            go_meet
            exact ⟨rfl, hx1⟩
      · have hI : decide ((i : Int) ≤ (b1 : Int)) = false := decide_eq_false (by omega)
        have he : E = false := by rw [HE.out, decide_eq_false hij]; rfl
        subst he
        clear hkI
        refine wp_region_facts [Fact.eq (.int .i64 i),
            Fact.eq (.int .i64 b1),
            Fact.eq (.bool false),
            Fact.eq (.bool false),
            Fact.eq undef,
            Fact.eq undef,
            Fact.eq undef,
            Fact.eq undef,
            Fact.eq undef,
            Fact.eq undef,
            Fact.eq undef,
            Fact.eq undef,
            Fact.eq undef,
            Fact.eq (.bool false)]
          [[], [], [(0, 30), (1, 31)], [(2, 32)], [(3, 33)], [(3, 33)], [(4, 34), (5, 35), (3, 33)], [(6, 36), (3, 33)], [(3, 33)], [(3, 33)], [(8, 38), (9, 39), (3, 33)], [(10, 40), (3, 33)], [(7, 37), (11, 41), (3, 33)], [(3, 33), (12, 42)]]
          [(0, 30), (1, 31), (2, 32), (3, 33), (4, 34), (5, 35), (6, 36), (7, 37), (8, 38), (9, 39), (10, 40), (11, 41), (12, 42), (13, 43)] (by kernel_rfl) (by kernel_rfl) ?_ ?_
        · refine ⟨?_, ?_, ?_, ?_, ?_, ?_, ?_, ?_, ?_, ?_, ?_, ?_, ?_, ?_, trivial⟩
          · intro w1 hx1; change wpList _ _ _ _ _ _; exact ob_move rfl rfl rfl rfl rfl
          · intro w1 hx1; change wpList _ _ _ _ _ _; exact ob_move rfl rfl rfl rfl rfl
          · intro w1 hx1; rintro _ rfl; rintro _ rfl; change wpList _ _ _ _ _ _; go_wp2_with fail; exact ⟨rfl, Ext.refl _, rfl, rfl⟩
          · intro w1 hx1; rintro _ rfl; change wpList _ _ _ _ _ _; exact ob_move rfl rfl rfl rfl rfl
          · intro w1 hx1; rintro _ rfl; change wpList _ _ _ _ _ _; exact ob_skip rfl rfl rfl rfl
          · intro w1 hx1; rintro _ rfl; change wpList _ _ _ _ _ _; exact ob_skip rfl rfl rfl rfl
          · intro w1 hx1; rintro _ rfl; rintro _ rfl; rintro _ rfl; change wpList _ _ _ _ _ _; exact ob_skip rfl rfl rfl rfl
          · intro w1 hx1; rintro _ rfl; rintro _ rfl; change wpList _ _ _ _ _ _; exact ob_skip rfl rfl rfl rfl
          · intro w1 hx1; rintro _ rfl; change wpList _ _ _ _ _ _; exact ob_skip rfl rfl rfl rfl
          · intro w1 hx1; rintro _ rfl; change wpList _ _ _ _ _ _; exact ob_skip rfl rfl rfl rfl
          · intro w1 hx1; rintro _ rfl; rintro _ rfl; rintro _ rfl; change wpList _ _ _ _ _ _; exact ob_skip rfl rfl rfl rfl
          · intro w1 hx1; rintro _ rfl; rintro _ rfl; change wpList _ _ _ _ _ _; exact ob_skip rfl rfl rfl rfl
          · intro w1 hx1; rintro _ rfl; rintro _ rfl; rintro _ rfl; change wpList _ _ _ _ _ _; exact ob_skip rfl rfl rfl rfl
          · intro w1 hx1; rintro _ rfl; rintro _ rfl; change wpList _ _ _ _ _ _; exact ob_pick rfl rfl rfl rfl rfl rfl
        · intro w1 hx1; rintro _ rfl; rintro _ rfl; rintro _ rfl; rintro _ rfl; rintro _ rfl; rintro _ rfl; rintro _ rfl; rintro _ rfl; rintro _ rfl; rintro _ rfl; rintro _ rfl; rintro _ rfl; rintro _ rfl; rintro _ rfl; refine depsThen_nil ?_; dsimp only; simp only [Act.put, List.setIfInBounds_toArray, List.set_cons_zero, List.set_cons_succ]
          go_wp2_with fail
          go_meet
          exact ⟨rfl, hx1⟩
    case rest =>
      obtain ⟨rfl, hx1⟩ := hcut
      have HXN := Lib.hid (hx.out.trans hx1)
      clear hx1 hx
      cases E with
      | true =>
        have hp := HE.out.symm
        simp only [Bool.and_eq_true, decide_eq_true_eq] at hp
        have HS2 : Hid (Sort.scanUp (fun x => ltN x d1[a]!) d1 b1 (i + 1) = Sort.scanUp (fun x => ltN x d1[a]!) d1 b1 a1) := by
          show _ = _
          rw [← hs.out]
          exact (scanUp_go hp.1 (by rw [X.out, Y.out]; exact hp.2)).symm
        have hq := hp.1
        clear hp hs HE X Y
        go_wp2_with fail
        go_roundw
        case rel => exact ⟨i + 1, by go_num, by omega, .inr (by omega), HS2, HXN⟩
        case measure => simp [intOf]; omega
      | false =>
        have HI2 : Hid (Sort.scanUp (fun x => ltN x d1[a]!) d1 b1 a1 = i) := by
          show _ = _
          rw [← hs.out]
          refine scanUp_stop (fun hq => ?_)
          have hp := HE.out
          rw [X.out, Y.out] at hq
          rw [decide_eq_true hq.1, hq.2] at hp
          cases hp
        clear hs HE X Y
        have HUT := Lib.hid (HSA1.out.ext HXN.out)
        have HGT := Lib.hid (grown_trans HSA2.out (grown_of_ext HXN.out))
        clear HXN
        go_wp2_with fail
        obtain ⟨wT, rfl⟩ : ∃ x : World, x = wc := ⟨_, rfl⟩
        go_loopw [11] (fun v wq => ∃ j : Nat, v = .int .i64 j ∧ (j = b1 ∨ i ≤ j + 1) ∧ j ≤ b1 ∧ Hid (Sort.scanDown (fun x => !ltN x d1[a]!) d1 i j = Sort.scanDown (fun x => !ltN x d1[a]!) d1 i b1) ∧ Hid (Ext wT wq)) (fun v _ => (intOf v).toNat)
        case atStart => exact ⟨b1, rfl, .inl rfl, Nat.le_refl _, rfl, Ext.refl _⟩
        case round =>
          obtain ⟨j, rfl, h3, h4, hs, hx⟩ := hrel
          have ho := HUT.out.ext hx.out
          obtain ⟨x, hxv⟩ : ∃ x, d1[j]! = x := ⟨_, rfl⟩
          obtain ⟨y, hyv⟩ : ∃ y, d1[a]! = y := ⟨_, rfl⟩
          have kA := ho.cell (i := a) (by rw [HSD.out]; omega)
          rw [hyv] at kA
          have hkI : j < N → wr.cell? ⟨g, j, none⟩ = some (.int .u64 x) := fun h => by rw [← hxv]; exact ho.cell (by rw [HSD.out]; exact h)
          have X := Lib.hid hxv
          have Y := Lib.hid hyv
          clear hxv hyv ho
          obtain ⟨E, hE⟩ : ∃ E, E = (decide (i ≤ j) && !ltN x y) := ⟨_, rfl⟩
          have HE := Lib.hid hE
          clear hE
          go_upto_region 5 with fail
          go_cut [60] from 46 to 60 (fun vL wx => vL = .bool E ∧ Ext wr wx)
          case first =>
            by_cases hij : i ≤ j
            · have hI : decide ((i : Int) ≤ (j : Int)) = true := decide_eq_true (by omega)
              have kI := hkI (by omega)
              have hvN : (j : Int) < (N : Int) := by omega
              have haN : (a : Int) < (N : Int) := by omega
              clear hkI
              cases hl : ltN x y with
              | true =>
                have he : E = false := by rw [HE.out, decide_eq_true hij, hl]; rfl
                subst he
                have HL := Lib.hid hl
                clear hl
                refine wp_region_facts [Fact.eq (.int .i64 i),
                    Fact.eq (.int .i64 j),
                    Fact.eq (.bool true),
                    Fact.eq (.bool true),
                    Fact.eq (.slice (some ⟨g, 0, none⟩) N cap),
                    Fact.eq (.int .i64 j),
                    Fact.eq (.pointer (some ⟨g, j, none⟩)),
                    Fact.eq (.int .u64 x),
                    Fact.eq (.slice (some ⟨g, 0, none⟩) N cap),
                    Fact.eq (.int .i64 a),
                    Fact.eq (.pointer (some ⟨g, a, none⟩)),
                    Fact.eq (.int .u64 y),
                    Fact.eq (.bool true),
                    Fact.eq (.bool false),
                    Fact.eq (.bool false)]
                  [[], [], [(0, 46), (1, 47)], [(2, 48)], [(3, 49)], [(3, 49)], [(4, 50), (5, 51), (3, 49)], [(6, 52), (3, 49)], [(3, 49)], [(3, 49)], [(8, 54), (9, 55), (3, 49)], [(10, 56), (3, 49)], [(7, 53), (11, 57), (3, 49)], [(12, 58), (3, 49)], [(3, 49), (13, 59)]]
                  [(0, 46), (1, 47), (2, 48), (3, 49), (4, 50), (5, 51), (6, 52), (7, 53), (8, 54), (9, 55), (10, 56), (11, 57), (12, 58), (13, 59), (14, 60)] (by kernel_rfl) (by kernel_rfl) ?_ ?_
                · refine ⟨?_, ?_, ?_, ?_, ?_, ?_, ?_, ?_, ?_, ?_, ?_, ?_, ?_, ?_, ?_, trivial⟩
                  · intro w1 hx1; change wpList _ _ _ _ _ _; exact ob_move rfl rfl rfl rfl rfl
                  · intro w1 hx1; change wpList _ _ _ _ _ _; exact ob_move rfl rfl rfl rfl rfl
                  · intro w1 hx1; rintro _ rfl; rintro _ rfl; change wpList _ _ _ _ _ _; go_wp2_with fail; exact ⟨rfl, Ext.refl _, rfl, rfl⟩
                  · intro w1 hx1; rintro _ rfl; change wpList _ _ _ _ _ _; exact ob_move rfl rfl rfl rfl rfl
                  · intro w1 hx1; rintro _ rfl; change wpList _ _ _ _ _ _; exact ob_move rfl rfl rfl rfl rfl
                  · intro w1 hx1; rintro _ rfl; change wpList _ _ _ _ _ _; exact ob_move rfl rfl rfl rfl rfl
                  · intro w1 hx1; rintro _ rfl; rintro _ rfl; rintro _ rfl; change wpList _ _ _ _ _ _; go_wp2_with fail; exact ⟨rfl, Ext.refl _, rfl, rfl⟩
                  · intro w1 hx1; rintro _ rfl; rintro _ rfl; change wpList _ _ _ _ _ _; have m0 := hx1.cell kI; go_wp2_with fail; exact ⟨rfl, Ext.refl _, rfl, rfl⟩
                  · intro w1 hx1; rintro _ rfl; change wpList _ _ _ _ _ _; exact ob_move rfl rfl rfl rfl rfl
                  · intro w1 hx1; rintro _ rfl; change wpList _ _ _ _ _ _; exact ob_move rfl rfl rfl rfl rfl
                  · intro w1 hx1; rintro _ rfl; rintro _ rfl; rintro _ rfl; change wpList _ _ _ _ _ _; go_wp2_with fail; exact ⟨rfl, Ext.refl _, rfl, rfl⟩
                  · intro w1 hx1; rintro _ rfl; rintro _ rfl; change wpList _ _ _ _ _ _; have m0 := hx1.cell kA; go_wp2_with fail; exact ⟨rfl, Ext.refl _, rfl, rfl⟩
                  · intro w1 hx1; rintro _ rfl; rintro _ rfl; rintro _ rfl; change wpList _ _ _ _ _ _; go_wp2_with fail; refine (less_yes HL.out _).mono ?_; rintro e w2 ⟨rfl, hx2⟩; go_wp2_with fail; exact ⟨rfl, hx2, rfl, rfl⟩
                  · intro w1 hx1; rintro _ rfl; rintro _ rfl; change wpList _ _ _ _ _ _; go_wp2_with fail; exact ⟨rfl, Ext.refl _, rfl, rfl⟩
                  · intro w1 hx1; rintro _ rfl; rintro _ rfl; change wpList _ _ _ _ _ _; exact ob_pick rfl rfl rfl rfl rfl rfl
                · intro w1 hx1; rintro _ rfl; rintro _ rfl; rintro _ rfl; rintro _ rfl; rintro _ rfl; rintro _ rfl; rintro _ rfl; rintro _ rfl; rintro _ rfl; rintro _ rfl; rintro _ rfl; rintro _ rfl; rintro _ rfl; rintro _ rfl; rintro _ rfl; refine depsThen_nil ?_; dsimp only; simp only [Act.put, List.setIfInBounds_toArray, List.set_cons_zero, List.set_cons_succ]
                  go_wp2_with fail
                  go_meet
                  exact ⟨rfl, hx1⟩
              | false =>
                have he : E = true := by rw [HE.out, decide_eq_true hij, hl]; rfl
                subst he
                have HL := Lib.hid hl
                clear hl
                refine wp_region_facts [Fact.eq (.int .i64 i),
                    Fact.eq (.int .i64 j),
                    Fact.eq (.bool true),
                    Fact.eq (.bool true),
                    Fact.eq (.slice (some ⟨g, 0, none⟩) N cap),
                    Fact.eq (.int .i64 j),
                    Fact.eq (.pointer (some ⟨g, j, none⟩)),
                    Fact.eq (.int .u64 x),
                    Fact.eq (.slice (some ⟨g, 0, none⟩) N cap),
                    Fact.eq (.int .i64 a),
                    Fact.eq (.pointer (some ⟨g, a, none⟩)),
                    Fact.eq (.int .u64 y),
                    Fact.eq (.bool false),
                    Fact.eq (.bool true),
                    Fact.eq (.bool true)]
                  [[], [], [(0, 46), (1, 47)], [(2, 48)], [(3, 49)], [(3, 49)], [(4, 50), (5, 51), (3, 49)], [(6, 52), (3, 49)], [(3, 49)], [(3, 49)], [(8, 54), (9, 55), (3, 49)], [(10, 56), (3, 49)], [(7, 53), (11, 57), (3, 49)], [(12, 58), (3, 49)], [(3, 49), (13, 59)]]
                  [(0, 46), (1, 47), (2, 48), (3, 49), (4, 50), (5, 51), (6, 52), (7, 53), (8, 54), (9, 55), (10, 56), (11, 57), (12, 58), (13, 59), (14, 60)] (by kernel_rfl) (by kernel_rfl) ?_ ?_
                · refine ⟨?_, ?_, ?_, ?_, ?_, ?_, ?_, ?_, ?_, ?_, ?_, ?_, ?_, ?_, ?_, trivial⟩
                  · intro w1 hx1; change wpList _ _ _ _ _ _; exact ob_move rfl rfl rfl rfl rfl
                  · intro w1 hx1; change wpList _ _ _ _ _ _; exact ob_move rfl rfl rfl rfl rfl
                  · intro w1 hx1; rintro _ rfl; rintro _ rfl; change wpList _ _ _ _ _ _; go_wp2_with fail; exact ⟨rfl, Ext.refl _, rfl, rfl⟩
                  · intro w1 hx1; rintro _ rfl; change wpList _ _ _ _ _ _; exact ob_move rfl rfl rfl rfl rfl
                  · intro w1 hx1; rintro _ rfl; change wpList _ _ _ _ _ _; exact ob_move rfl rfl rfl rfl rfl
                  · intro w1 hx1; rintro _ rfl; change wpList _ _ _ _ _ _; exact ob_move rfl rfl rfl rfl rfl
                  · intro w1 hx1; rintro _ rfl; rintro _ rfl; rintro _ rfl; change wpList _ _ _ _ _ _; go_wp2_with fail; exact ⟨rfl, Ext.refl _, rfl, rfl⟩
                  · intro w1 hx1; rintro _ rfl; rintro _ rfl; change wpList _ _ _ _ _ _; have m0 := hx1.cell kI; go_wp2_with fail; exact ⟨rfl, Ext.refl _, rfl, rfl⟩
                  · intro w1 hx1; rintro _ rfl; change wpList _ _ _ _ _ _; exact ob_move rfl rfl rfl rfl rfl
                  · intro w1 hx1; rintro _ rfl; change wpList _ _ _ _ _ _; exact ob_move rfl rfl rfl rfl rfl
                  · intro w1 hx1; rintro _ rfl; rintro _ rfl; rintro _ rfl; change wpList _ _ _ _ _ _; go_wp2_with fail; exact ⟨rfl, Ext.refl _, rfl, rfl⟩
                  · intro w1 hx1; rintro _ rfl; rintro _ rfl; change wpList _ _ _ _ _ _; have m0 := hx1.cell kA; go_wp2_with fail; exact ⟨rfl, Ext.refl _, rfl, rfl⟩
                  · intro w1 hx1; rintro _ rfl; rintro _ rfl; rintro _ rfl; change wpList _ _ _ _ _ _; go_wp2_with fail; refine (less_no HL.out _).mono ?_; rintro e w2 ⟨rfl, hx2⟩; go_wp2_with fail; exact ⟨rfl, hx2, rfl, rfl⟩
                  · intro w1 hx1; rintro _ rfl; rintro _ rfl; change wpList _ _ _ _ _ _; go_wp2_with fail; exact ⟨rfl, Ext.refl _, rfl, rfl⟩
                  · intro w1 hx1; rintro _ rfl; rintro _ rfl; change wpList _ _ _ _ _ _; exact ob_pick rfl rfl rfl rfl rfl rfl
                · intro w1 hx1; rintro _ rfl; rintro _ rfl; rintro _ rfl; rintro _ rfl; rintro _ rfl; rintro _ rfl; rintro _ rfl; rintro _ rfl; rintro _ rfl; rintro _ rfl; rintro _ rfl; rintro _ rfl; rintro _ rfl; rintro _ rfl; rintro _ rfl; refine depsThen_nil ?_; dsimp only; simp only [Act.put, List.setIfInBounds_toArray, List.set_cons_zero, List.set_cons_succ]
                  go_wp2_with fail
                  go_meet
                  exact ⟨rfl, hx1⟩
            · have hI : decide ((i : Int) ≤ (j : Int)) = false := decide_eq_false (by omega)
              have he : E = false := by rw [HE.out, decide_eq_false hij]; rfl
              subst he
              clear hkI
              refine wp_region_facts [Fact.eq (.int .i64 i),
                  Fact.eq (.int .i64 j),
                  Fact.eq (.bool false),
                  Fact.eq (.bool false),
                  Fact.eq undef,
                  Fact.eq undef,
                  Fact.eq undef,
                  Fact.eq undef,
                  Fact.eq undef,
                  Fact.eq undef,
                  Fact.eq undef,
                  Fact.eq undef,
                  Fact.eq undef,
                  Fact.eq undef,
                  Fact.eq (.bool false)]
                [[], [], [(0, 46), (1, 47)], [(2, 48)], [(3, 49)], [(3, 49)], [(4, 50), (5, 51), (3, 49)], [(6, 52), (3, 49)], [(3, 49)], [(3, 49)], [(8, 54), (9, 55), (3, 49)], [(10, 56), (3, 49)], [(7, 53), (11, 57), (3, 49)], [(12, 58), (3, 49)], [(3, 49), (13, 59)]]
                [(0, 46), (1, 47), (2, 48), (3, 49), (4, 50), (5, 51), (6, 52), (7, 53), (8, 54), (9, 55), (10, 56), (11, 57), (12, 58), (13, 59), (14, 60)] (by kernel_rfl) (by kernel_rfl) ?_ ?_
              · refine ⟨?_, ?_, ?_, ?_, ?_, ?_, ?_, ?_, ?_, ?_, ?_, ?_, ?_, ?_, ?_, trivial⟩
                · intro w1 hx1; change wpList _ _ _ _ _ _; exact ob_move rfl rfl rfl rfl rfl
                · intro w1 hx1; change wpList _ _ _ _ _ _; exact ob_move rfl rfl rfl rfl rfl
                · intro w1 hx1; rintro _ rfl; rintro _ rfl; change wpList _ _ _ _ _ _; go_wp2_with fail; exact ⟨rfl, Ext.refl _, rfl, rfl⟩
                · intro w1 hx1; rintro _ rfl; change wpList _ _ _ _ _ _; exact ob_move rfl rfl rfl rfl rfl
                · intro w1 hx1; rintro _ rfl; change wpList _ _ _ _ _ _; exact ob_skip rfl rfl rfl rfl
                · intro w1 hx1; rintro _ rfl; change wpList _ _ _ _ _ _; exact ob_skip rfl rfl rfl rfl
                · intro w1 hx1; rintro _ rfl; rintro _ rfl; rintro _ rfl; change wpList _ _ _ _ _ _; exact ob_skip rfl rfl rfl rfl
                · intro w1 hx1; rintro _ rfl; rintro _ rfl; change wpList _ _ _ _ _ _; exact ob_skip rfl rfl rfl rfl
                · intro w1 hx1; rintro _ rfl; change wpList _ _ _ _ _ _; exact ob_skip rfl rfl rfl rfl
                · intro w1 hx1; rintro _ rfl; change wpList _ _ _ _ _ _; exact ob_skip rfl rfl rfl rfl
                · intro w1 hx1; rintro _ rfl; rintro _ rfl; rintro _ rfl; change wpList _ _ _ _ _ _; exact ob_skip rfl rfl rfl rfl
                · intro w1 hx1; rintro _ rfl; rintro _ rfl; change wpList _ _ _ _ _ _; exact ob_skip rfl rfl rfl rfl
                · intro w1 hx1; rintro _ rfl; rintro _ rfl; rintro _ rfl; change wpList _ _ _ _ _ _; exact ob_skip rfl rfl rfl rfl
                · intro w1 hx1; rintro _ rfl; rintro _ rfl; change wpList _ _ _ _ _ _; exact ob_skip rfl rfl rfl rfl
                · intro w1 hx1; rintro _ rfl; rintro _ rfl; change wpList _ _ _ _ _ _; exact ob_pick rfl rfl rfl rfl rfl rfl
              · intro w1 hx1; rintro _ rfl; rintro _ rfl; rintro _ rfl; rintro _ rfl; rintro _ rfl; rintro _ rfl; rintro _ rfl; rintro _ rfl; rintro _ rfl; rintro _ rfl; rintro _ rfl; rintro _ rfl; rintro _ rfl; rintro _ rfl; rintro _ rfl; refine depsThen_nil ?_; dsimp only; simp only [Act.put, List.setIfInBounds_toArray, List.set_cons_zero, List.set_cons_succ]
                go_wp2_with fail
                go_meet
                exact ⟨rfl, hx1⟩
          case rest =>
            obtain ⟨rfl, hx1⟩ := hcut
            have HXN := Lib.hid (hx.out.trans hx1)
            clear hx1 hx
            cases E with
            | true =>
              have hp := HE.out.symm
              simp only [Bool.and_eq_true, decide_eq_true_eq] at hp
              obtain ⟨jd, hjj⟩ : ∃ jd, j = jd + 1 := ⟨j - 1, by omega⟩
              have qj : (j : Int) - 1 = (jd : Int) := by omega
              have HS2 : Hid (Sort.scanDown (fun x => !ltN x d1[a]!) d1 i jd = Sort.scanDown (fun x => !ltN x d1[a]!) d1 i b1) := by
                show _ = _
                rw [← hs.out]
                exact (scanDown_go hp.1 hjj (by rw [X.out, Y.out]; exact hp.2)).symm
              have hq := hp.1
              have HJJ := Lib.hid hjj
              clear hp hs HE X Y hjj
              go_wp2_with fail
              go_roundw
              case rel => exact ⟨jd, rfl, .inr (by have := HJJ.out; omega), by have := HJJ.out; omega, HS2, HXN⟩
              case measure => have := HJJ.out; simp [intOf]; omega
            | false =>
              have HJ2 : Hid (Sort.scanDown (fun x => !ltN x d1[a]!) d1 i b1 = j) := by
                show _ = _
                rw [← hs.out]
                refine scanDown_stop (fun hq => ?_)
                have hp := HE.out
                rw [X.out, Y.out] at hq
                rw [decide_eq_true hq.1, hq.2] at hp
                cases hp
              clear hs HE X Y
              have HU2 := Lib.hid (HUT.out.ext HXN.out)
              have HG2 := Lib.hid (grown_trans HGT.out (grown_of_ext HXN.out))
              clear HXN
              have hja : a ≤ j ∧ j < N := by omega
              by_cases hij : j < i
              · have hI : decide ((j : Int) < (i : Int)) = true := decide_eq_true (by omega)
                have hp : Sort.partition ltN d a b p = (j, true, Sort.swp d1 j a) := by
                  have hI2 := HI2.out
                  have hJ2 := HJ2.out
                  rw [← HD1.out, HB1.out, HA1.out] at hI2
                  rw [← HD1.out, HB1.out] at hJ2
                  rw [← HD1.out]
                  exact part_true hI2 hJ2 hij
                have HP := Lib.hid hp
                clear hp HI2 HJ2
                have c0 := HU2.out.cell (i := j) (by rw [HSD.out]; omega)
                have c1 := HU2.out.cell (i := a) (by rw [HSD.out]; omega)
                have z0 := HU2.out.free j
                have z1 := HU2.out.free a
                have hw := uO_swp HU2.out (i := j) (j := a) (by rw [HSD.out]; omega) (by rw [HSD.out]; omega)
                have HW := Lib.hid hw
                clear hw
                have b0 : (j : Int) < (N : Int) := by omega
                have b1 : (a : Int) < (N : Int) := by omega
                obtain ⟨v', hy'⟩ := cell?_setCell_some (w := wc) (p := ⟨g, j, none⟩) (x := .int .u64 d1[a]!) (q := ⟨g, a, none⟩) c1
                generalize d1[j]! = y0 at *
                generalize d1[a]! = y1 at *
                go_upto_region 8 with fail
                go_region
                obtain ⟨h1, h2⟩ := HW.out
                have HE1 := Lib.hid (h1.ext (Ext.refl _).drew)
                have HE2 := Lib.hid (grown_trans (grown_trans HG2.out h2) (grown_of_ext (Ext.refl _).drew))
                clear h1 h2 c0 c1 z0 z1 HW b0 b1 hy'
                generalize World.drew _ = w3 at *
                go_wp2_with fail
                go_ret2
                exact ⟨by rw [HP.out]; rfl, by rw [HP.out]; exact ⟨HE1.out, HE2.out⟩⟩
              · have hI : decide ((j : Int) < (i : Int)) = false := decide_eq_false (by omega)
                obtain ⟨RES, hres⟩ : ∃ R, Sort.partLoop ltN a (i + 1) (j - 1) (Sort.swp d1 i j) = R := ⟨_, rfl⟩
                have hp : Sort.partition ltN d a b p = (RES.1, false, Sort.swp RES.2 RES.1 a) := by
                  have hI2 := HI2.out
                  have hJ2 := HJ2.out
                  rw [← HD1.out, HB1.out, HA1.out] at hI2
                  rw [← HD1.out, HB1.out] at hJ2
                  rw [← hres, ← HD1.out]
                  exact part_false hI2 hJ2 hij
                have HP := Lib.hid hp
                have HRES := Lib.hid hres
                clear hp hres HI2 HJ2
                obtain ⟨j1, hj1⟩ : ∃ x, x = j - 1 := ⟨_, rfl⟩
                have qj1 : (j : Int) - 1 = (j1 : Int) := by omega
                have hj1b : a ≤ j1 ∧ j1 < b := by omega
                have HJ1 := Lib.hid hj1
                clear hj1
                have c0 := HU2.out.cell (i := i) (by rw [HSD.out]; omega)
                have c1 := HU2.out.cell (i := j) (by rw [HSD.out]; omega)
                have z0 := HU2.out.free i
                have z1 := HU2.out.free j
                have hw := uO_swp HU2.out (i := i) (j := j) (by rw [HSD.out]; omega) (by rw [HSD.out]; omega)
                have HW := Lib.hid hw
                clear hw
                have b0 : (i : Int) < (N : Int) := by omega
                have b1 : (j : Int) < (N : Int) := by omega
                obtain ⟨v', hy'⟩ := cell?_setCell_some (w := wc) (p := ⟨g, i, none⟩) (x := .int .u64 d1[j]!) (q := ⟨g, j, none⟩) c1
                generalize d1[i]! = y0 at *
                generalize d1[j]! = y1 at *
                go_upto_region 10 with fail
                go_region
                obtain ⟨h1, h2⟩ := HW.out
                have HF1 := Lib.hid (h1.ext (Ext.refl _).drew)
                have HF2 := Lib.hid (grown_trans (grown_trans HG2.out h2) (grown_of_ext (Ext.refl _).drew))
                clear h1 h2 c0 c1 z0 z1 HW b0 b1 hy'
                generalize World.drew _ = w3 at *
                go_wp2_with fail
                go_loopw [10, 11] (fun iv jv wq => ∃ ii jj : Nat, iv = .int .i64 ii ∧ jv = .int .i64 jj ∧ a < ii ∧ a ≤ jj ∧ jj < b ∧ ii ≤ jj + 2 ∧ Hid (∃ dk : Array Nat, dk.size = N ∧ UO base g cap wq dk ∧ w.grownBy wq (some g) ∧ Sort.partLoop ltN a ii jj dk = RES)) (fun iv jv _ => (intOf jv).toNat + 1 - (intOf iv).toNat)
                case atStart => exact ⟨i + 1, j1, by go_num, rfl, by omega, hj1b.1, hj1b.2, by have := HJ1.out; omega, _, (swp_size _ _ _).trans HSD.out, HF1.out, HF2.out, by rw [HJ1.out]; exact HRES.out⟩
                case round =>
                  clear HF1 HF2 HU2 HG2 HUT HGT HRES HJ1 HSD HSA1 HSA2 hja hij hI hj1b qj1 h1 h2 h3 h4
                  obtain ⟨ii, jj, rfl, rfl, ha2, hb2, hb3, hb4, hst⟩ := hrel
                  obtain ⟨dk, e1, e2, e3, e4⟩ := hst.out
                  have HSD := Lib.hid e1
                  have HU3 := Lib.hid e2
                  have HG3 := Lib.hid e3
                  have HE4 := Lib.hid e4
                  clear e1 e2 e3 e4 hst
                  go_wp2_with fail
                  obtain ⟨wU, rfl⟩ : ∃ x : World, x = wr := ⟨_, rfl⟩
                  go_loopw [10] (fun v wq => ∃ i : Nat, v = .int .i64 i ∧ ii ≤ i ∧ (i = ii ∨ i ≤ jj + 1) ∧ Hid (Sort.scanUp (fun x => ltN x dk[a]!) dk jj i = Sort.scanUp (fun x => ltN x dk[a]!) dk jj ii) ∧ Hid (Ext wU wq)) (fun v _ => jj + 2 - (intOf v).toNat)
                  case atStart => exact ⟨ii, rfl, Nat.le_refl _, .inl rfl, rfl, Ext.refl _⟩
                  case round =>
                    obtain ⟨i, rfl, h1, h2, hs, hx⟩ := hrel
                    have ho := HU3.out.ext hx.out
                    obtain ⟨x, hxv⟩ : ∃ x, dk[i]! = x := ⟨_, rfl⟩
                    obtain ⟨y, hyv⟩ : ∃ y, dk[a]! = y := ⟨_, rfl⟩
                    have kA := ho.cell (i := a) (by rw [HSD.out]; omega)
                    rw [hyv] at kA
                    have hkI : i < N → wr.cell? ⟨g, i, none⟩ = some (.int .u64 x) := fun h => by rw [← hxv]; exact ho.cell (by rw [HSD.out]; exact h)
                    have X := Lib.hid hxv
                    have Y := Lib.hid hyv
                    clear hxv hyv ho
                    obtain ⟨E, hE⟩ : ∃ E, E = (decide (i ≤ jj) && ltN x y) := ⟨_, rfl⟩
                    have HE := Lib.hid hE
                    clear hE
                    go_upto_region 13 with fail
                    go_cut [112] from 99 to 112 (fun vL wx => vL = .bool E ∧ Ext wr wx)
                    case first =>
                      by_cases hij : i ≤ jj
                      · have hI : decide ((i : Int) ≤ (jj : Int)) = true := decide_eq_true (by omega)
                        have kI := hkI (by omega)
                        have hvN : (i : Int) < (N : Int) := by omega
                        have haN : (a : Int) < (N : Int) := by omega
                        clear hkI
                        cases hl : ltN x y with
                        | true =>
                          have he : E = true := by rw [HE.out, decide_eq_true hij, hl]; rfl
                          subst he
                          have HL := Lib.hid hl
                          clear hl
                          refine wp_region_facts [Fact.eq (.int .i64 i),
                              Fact.eq (.int .i64 jj),
                              Fact.eq (.bool true),
                              Fact.eq (.bool true),
                              Fact.eq (.slice (some ⟨g, 0, none⟩) N cap),
                              Fact.eq (.int .i64 i),
                              Fact.eq (.pointer (some ⟨g, i, none⟩)),
                              Fact.eq (.int .u64 x),
                              Fact.eq (.slice (some ⟨g, 0, none⟩) N cap),
                              Fact.eq (.int .i64 a),
                              Fact.eq (.pointer (some ⟨g, a, none⟩)),
                              Fact.eq (.int .u64 y),
                              Fact.eq (.bool true),
                              Fact.eq (.bool true)]
                            [[], [], [(0, 99), (1, 100)], [(2, 101)], [(3, 102)], [(3, 102)], [(4, 103), (5, 104), (3, 102)], [(6, 105), (3, 102)], [(3, 102)], [(3, 102)], [(8, 107), (9, 108), (3, 102)], [(10, 109), (3, 102)], [(7, 106), (11, 110), (3, 102)], [(3, 102), (12, 111)]]
                            [(0, 99), (1, 100), (2, 101), (3, 102), (4, 103), (5, 104), (6, 105), (7, 106), (8, 107), (9, 108), (10, 109), (11, 110), (12, 111), (13, 112)] (by kernel_rfl) (by kernel_rfl) ?_ ?_
                          · refine ⟨?_, ?_, ?_, ?_, ?_, ?_, ?_, ?_, ?_, ?_, ?_, ?_, ?_, ?_, trivial⟩
                            · intro w1 hx1; change wpList _ _ _ _ _ _; exact ob_move rfl rfl rfl rfl rfl
                            · intro w1 hx1; change wpList _ _ _ _ _ _; exact ob_move rfl rfl rfl rfl rfl
                            · intro w1 hx1; rintro _ rfl; rintro _ rfl; change wpList _ _ _ _ _ _; go_wp2_with fail; exact ⟨rfl, Ext.refl _, rfl, rfl⟩
                            · intro w1 hx1; rintro _ rfl; change wpList _ _ _ _ _ _; exact ob_move rfl rfl rfl rfl rfl
                            · intro w1 hx1; rintro _ rfl; change wpList _ _ _ _ _ _; exact ob_move rfl rfl rfl rfl rfl
                            · intro w1 hx1; rintro _ rfl; change wpList _ _ _ _ _ _; exact ob_move rfl rfl rfl rfl rfl
                            · intro w1 hx1; rintro _ rfl; rintro _ rfl; rintro _ rfl; change wpList _ _ _ _ _ _; go_wp2_with fail; exact ⟨rfl, Ext.refl _, rfl, rfl⟩
                            · intro w1 hx1; rintro _ rfl; rintro _ rfl; change wpList _ _ _ _ _ _; have m0 := hx1.cell kI; go_wp2_with fail; exact ⟨rfl, Ext.refl _, rfl, rfl⟩
                            · intro w1 hx1; rintro _ rfl; change wpList _ _ _ _ _ _; exact ob_move rfl rfl rfl rfl rfl
                            · intro w1 hx1; rintro _ rfl; change wpList _ _ _ _ _ _; exact ob_move rfl rfl rfl rfl rfl
                            · intro w1 hx1; rintro _ rfl; rintro _ rfl; rintro _ rfl; change wpList _ _ _ _ _ _; go_wp2_with fail; exact ⟨rfl, Ext.refl _, rfl, rfl⟩
                            · intro w1 hx1; rintro _ rfl; rintro _ rfl; change wpList _ _ _ _ _ _; have m0 := hx1.cell kA; go_wp2_with fail; exact ⟨rfl, Ext.refl _, rfl, rfl⟩
                            · intro w1 hx1; rintro _ rfl; rintro _ rfl; rintro _ rfl; change wpList _ _ _ _ _ _; go_wp2_with fail; refine (less_yes HL.out _).mono ?_; rintro e w2 ⟨rfl, hx2⟩; go_wp2_with fail; exact ⟨rfl, hx2, rfl, rfl⟩
                            · intro w1 hx1; rintro _ rfl; rintro _ rfl; change wpList _ _ _ _ _ _; exact ob_pick rfl rfl rfl rfl rfl rfl
                          · intro w1 hx1; rintro _ rfl; rintro _ rfl; rintro _ rfl; rintro _ rfl; rintro _ rfl; rintro _ rfl; rintro _ rfl; rintro _ rfl; rintro _ rfl; rintro _ rfl; rintro _ rfl; rintro _ rfl; rintro _ rfl; rintro _ rfl; refine depsThen_nil ?_; dsimp only; simp only [Act.put, List.setIfInBounds_toArray, List.set_cons_zero, List.set_cons_succ]
                            go_wp2_with fail
                            go_meet
                            exact ⟨rfl, hx1⟩
                        | false =>
                          have he : E = false := by rw [HE.out, decide_eq_true hij, hl]; rfl
                          subst he
                          have HL := Lib.hid hl
                          clear hl
                          refine wp_region_facts [Fact.eq (.int .i64 i),
                              Fact.eq (.int .i64 jj),
                              Fact.eq (.bool true),
                              Fact.eq (.bool true),
                              Fact.eq (.slice (some ⟨g, 0, none⟩) N cap),
                              Fact.eq (.int .i64 i),
                              Fact.eq (.pointer (some ⟨g, i, none⟩)),
                              Fact.eq (.int .u64 x),
                              Fact.eq (.slice (some ⟨g, 0, none⟩) N cap),
                              Fact.eq (.int .i64 a),
                              Fact.eq (.pointer (some ⟨g, a, none⟩)),
                              Fact.eq (.int .u64 y),
                              Fact.eq (.bool false),
                              Fact.eq (.bool false)]
                            [[], [], [(0, 99), (1, 100)], [(2, 101)], [(3, 102)], [(3, 102)], [(4, 103), (5, 104), (3, 102)], [(6, 105), (3, 102)], [(3, 102)], [(3, 102)], [(8, 107), (9, 108), (3, 102)], [(10, 109), (3, 102)], [(7, 106), (11, 110), (3, 102)], [(3, 102), (12, 111)]]
                            [(0, 99), (1, 100), (2, 101), (3, 102), (4, 103), (5, 104), (6, 105), (7, 106), (8, 107), (9, 108), (10, 109), (11, 110), (12, 111), (13, 112)] (by kernel_rfl) (by kernel_rfl) ?_ ?_
                          · refine ⟨?_, ?_, ?_, ?_, ?_, ?_, ?_, ?_, ?_, ?_, ?_, ?_, ?_, ?_, trivial⟩
                            · intro w1 hx1; change wpList _ _ _ _ _ _; exact ob_move rfl rfl rfl rfl rfl
                            · intro w1 hx1; change wpList _ _ _ _ _ _; exact ob_move rfl rfl rfl rfl rfl
                            · intro w1 hx1; rintro _ rfl; rintro _ rfl; change wpList _ _ _ _ _ _; go_wp2_with fail; exact ⟨rfl, Ext.refl _, rfl, rfl⟩
                            · intro w1 hx1; rintro _ rfl; change wpList _ _ _ _ _ _; exact ob_move rfl rfl rfl rfl rfl
                            · intro w1 hx1; rintro _ rfl; change wpList _ _ _ _ _ _; exact ob_move rfl rfl rfl rfl rfl
                            · intro w1 hx1; rintro _ rfl; change wpList _ _ _ _ _ _; exact ob_move rfl rfl rfl rfl rfl
                            · intro w1 hx1; rintro _ rfl; rintro _ rfl; rintro _ rfl; change wpList _ _ _ _ _ _; go_wp2_with fail; exact ⟨rfl, Ext.refl _, rfl, rfl⟩
                            · intro w1 hx1; rintro _ rfl; rintro _ rfl; change wpList _ _ _ _ _ _; have m0 := hx1.cell kI; go_wp2_with fail; exact ⟨rfl, Ext.refl _, rfl, rfl⟩
                            · intro w1 hx1; rintro _ rfl; change wpList _ _ _ _ _ _; exact ob_move rfl rfl rfl rfl rfl
                            · intro w1 hx1; rintro _ rfl; change wpList _ _ _ _ _ _; exact ob_move rfl rfl rfl rfl rfl
                            · intro w1 hx1; rintro _ rfl; rintro _ rfl; rintro _ rfl; change wpList _ _ _ _ _ _; go_wp2_with fail; exact ⟨rfl, Ext.refl _, rfl, rfl⟩
                            · intro w1 hx1; rintro _ rfl; rintro _ rfl; change wpList _ _ _ _ _ _; have m0 := hx1.cell kA; go_wp2_with fail; exact ⟨rfl, Ext.refl _, rfl, rfl⟩
                            · intro w1 hx1; rintro _ rfl; rintro _ rfl; rintro _ rfl; change wpList _ _ _ _ _ _; go_wp2_with fail; refine (less_no HL.out _).mono ?_; rintro e w2 ⟨rfl, hx2⟩; go_wp2_with fail; exact ⟨rfl, hx2, rfl, rfl⟩
                            · intro w1 hx1; rintro _ rfl; rintro _ rfl; change wpList _ _ _ _ _ _; exact ob_pick rfl rfl rfl rfl rfl rfl
                          · intro w1 hx1; rintro _ rfl; rintro _ rfl; rintro _ rfl; rintro _ rfl; rintro _ rfl; rintro _ rfl; rintro _ rfl; rintro _ rfl; rintro _ rfl; rintro _ rfl; rintro _ rfl; rintro _ rfl; rintro _ rfl; rintro _ rfl; refine depsThen_nil ?_; dsimp only; simp only [Act.put, List.setIfInBounds_toArray, List.set_cons_zero, List.set_cons_succ]
                            go_wp2_with fail
                            go_meet
                            exact ⟨rfl, hx1⟩
                      · have hI : decide ((i : Int) ≤ (jj : Int)) = false := decide_eq_false (by omega)
                        have he : E = false := by rw [HE.out, decide_eq_false hij]; rfl
                        subst he
                        clear hkI
                        refine wp_region_facts [Fact.eq (.int .i64 i),
                            Fact.eq (.int .i64 jj),
                            Fact.eq (.bool false),
                            Fact.eq (.bool false),
                            Fact.eq undef,
                            Fact.eq undef,
                            Fact.eq undef,
                            Fact.eq undef,
                            Fact.eq undef,
                            Fact.eq undef,
                            Fact.eq undef,
                            Fact.eq undef,
                            Fact.eq undef,
                            Fact.eq (.bool false)]
                          [[], [], [(0, 99), (1, 100)], [(2, 101)], [(3, 102)], [(3, 102)], [(4, 103), (5, 104), (3, 102)], [(6, 105), (3, 102)], [(3, 102)], [(3, 102)], [(8, 107), (9, 108), (3, 102)], [(10, 109), (3, 102)], [(7, 106), (11, 110), (3, 102)], [(3, 102), (12, 111)]]
                          [(0, 99), (1, 100), (2, 101), (3, 102), (4, 103), (5, 104), (6, 105), (7, 106), (8, 107), (9, 108), (10, 109), (11, 110), (12, 111), (13, 112)] (by kernel_rfl) (by kernel_rfl) ?_ ?_
                        · refine ⟨?_, ?_, ?_, ?_, ?_, ?_, ?_, ?_, ?_, ?_, ?_, ?_, ?_, ?_, trivial⟩
                          · intro w1 hx1; change wpList _ _ _ _ _ _; exact ob_move rfl rfl rfl rfl rfl
                          · intro w1 hx1; change wpList _ _ _ _ _ _; exact ob_move rfl rfl rfl rfl rfl
                          · intro w1 hx1; rintro _ rfl; rintro _ rfl; change wpList _ _ _ _ _ _; go_wp2_with fail; exact ⟨rfl, Ext.refl _, rfl, rfl⟩
                          · intro w1 hx1; rintro _ rfl; change wpList _ _ _ _ _ _; exact ob_move rfl rfl rfl rfl rfl
                          · intro w1 hx1; rintro _ rfl; change wpList _ _ _ _ _ _; exact ob_skip rfl rfl rfl rfl
                          · intro w1 hx1; rintro _ rfl; change wpList _ _ _ _ _ _; exact ob_skip rfl rfl rfl rfl
                          · intro w1 hx1; rintro _ rfl; rintro _ rfl; rintro _ rfl; change wpList _ _ _ _ _ _; exact ob_skip rfl rfl rfl rfl
                          · intro w1 hx1; rintro _ rfl; rintro _ rfl; change wpList _ _ _ _ _ _; exact ob_skip rfl rfl rfl rfl
                          · intro w1 hx1; rintro _ rfl; change wpList _ _ _ _ _ _; exact ob_skip rfl rfl rfl rfl
                          · intro w1 hx1; rintro _ rfl; change wpList _ _ _ _ _ _; exact ob_skip rfl rfl rfl rfl
                          · intro w1 hx1; rintro _ rfl; rintro _ rfl; rintro _ rfl; change wpList _ _ _ _ _ _; exact ob_skip rfl rfl rfl rfl
                          · intro w1 hx1; rintro _ rfl; rintro _ rfl; change wpList _ _ _ _ _ _; exact ob_skip rfl rfl rfl rfl
                          · intro w1 hx1; rintro _ rfl; rintro _ rfl; rintro _ rfl; change wpList _ _ _ _ _ _; exact ob_skip rfl rfl rfl rfl
                          · intro w1 hx1; rintro _ rfl; rintro _ rfl; change wpList _ _ _ _ _ _; exact ob_pick rfl rfl rfl rfl rfl rfl
                        · intro w1 hx1; rintro _ rfl; rintro _ rfl; rintro _ rfl; rintro _ rfl; rintro _ rfl; rintro _ rfl; rintro _ rfl; rintro _ rfl; rintro _ rfl; rintro _ rfl; rintro _ rfl; rintro _ rfl; rintro _ rfl; rintro _ rfl; refine depsThen_nil ?_; dsimp only; simp only [Act.put, List.setIfInBounds_toArray, List.set_cons_zero, List.set_cons_succ]
                          go_wp2_with fail
                          go_meet
                          exact ⟨rfl, hx1⟩
                    case rest =>
                      obtain ⟨rfl, hx1⟩ := hcut
                      have HXN := Lib.hid (hx.out.trans hx1)
                      clear hx1 hx
                      cases E with
                      | true =>
                        have hp := HE.out.symm
                        simp only [Bool.and_eq_true, decide_eq_true_eq] at hp
                        have HS2 : Hid (Sort.scanUp (fun x => ltN x dk[a]!) dk jj (i + 1) = Sort.scanUp (fun x => ltN x dk[a]!) dk jj ii) := by
                          show _ = _
                          rw [← hs.out]
                          exact (scanUp_go hp.1 (by rw [X.out, Y.out]; exact hp.2)).symm
                        have hq := hp.1
                        clear hp hs HE X Y
                        go_wp2_with fail
                        go_roundw
                        case rel => exact ⟨i + 1, by go_num, by omega, .inr (by omega), HS2, HXN⟩
                        case measure => simp [intOf]; omega
                      | false =>
                        have HI2 : Hid (Sort.scanUp (fun x => ltN x dk[a]!) dk jj ii = i) := by
                          show _ = _
                          rw [← hs.out]
                          refine scanUp_stop (fun hq => ?_)
                          have hp := HE.out
                          rw [X.out, Y.out] at hq
                          rw [decide_eq_true hq.1, hq.2] at hp
                          cases hp
                        clear hs HE X Y
                        have HUT := Lib.hid (HU3.out.ext HXN.out)
                        have HGT := Lib.hid (grown_trans HG3.out (grown_of_ext HXN.out))
                        clear HXN
                        go_wp2_with fail
                        obtain ⟨wV, rfl⟩ : ∃ x : World, x = wc := ⟨_, rfl⟩
                        go_loopw [11] (fun v wq => ∃ j : Nat, v = .int .i64 j ∧ (j = jj ∨ i ≤ j + 1) ∧ j ≤ jj ∧ Hid (Sort.scanDown (fun x => !ltN x dk[a]!) dk i j = Sort.scanDown (fun x => !ltN x dk[a]!) dk i jj) ∧ Hid (Ext wV wq)) (fun v _ => (intOf v).toNat)
                        case atStart => exact ⟨jj, rfl, .inl rfl, Nat.le_refl _, rfl, Ext.refl _⟩
                        case round =>
                          obtain ⟨j, rfl, h3, h4, hs, hx⟩ := hrel
                          have ho := HUT.out.ext hx.out
                          obtain ⟨x, hxv⟩ : ∃ x, dk[j]! = x := ⟨_, rfl⟩
                          obtain ⟨y, hyv⟩ : ∃ y, dk[a]! = y := ⟨_, rfl⟩
                          have kA := ho.cell (i := a) (by rw [HSD.out]; omega)
                          rw [hyv] at kA
                          have hkI : j < N → wr.cell? ⟨g, j, none⟩ = some (.int .u64 x) := fun h => by rw [← hxv]; exact ho.cell (by rw [HSD.out]; exact h)
                          have X := Lib.hid hxv
                          have Y := Lib.hid hyv
                          clear hxv hyv ho
                          obtain ⟨E, hE⟩ : ∃ E, E = (decide (i ≤ j) && !ltN x y) := ⟨_, rfl⟩
                          have HE := Lib.hid hE
                          clear hE
                          go_upto_region 15 with fail
                          go_cut [129] from 115 to 129 (fun vL wx => vL = .bool E ∧ Ext wr wx)
                          case first =>
                            by_cases hij : i ≤ j
                            · have hI : decide ((i : Int) ≤ (j : Int)) = true := decide_eq_true (by omega)
                              have kI := hkI (by omega)
                              have hvN : (j : Int) < (N : Int) := by omega
                              have haN : (a : Int) < (N : Int) := by omega
                              clear hkI
                              cases hl : ltN x y with
                              | true =>
                                have he : E = false := by rw [HE.out, decide_eq_true hij, hl]; rfl
                                subst he
                                have HL := Lib.hid hl
                                clear hl
                                refine wp_region_facts [Fact.eq (.int .i64 i),
                                    Fact.eq (.int .i64 j),
                                    Fact.eq (.bool true),
                                    Fact.eq (.bool true),
                                    Fact.eq (.slice (some ⟨g, 0, none⟩) N cap),
                                    Fact.eq (.int .i64 j),
                                    Fact.eq (.pointer (some ⟨g, j, none⟩)),
                                    Fact.eq (.int .u64 x),
                                    Fact.eq (.slice (some ⟨g, 0, none⟩) N cap),
                                    Fact.eq (.int .i64 a),
                                    Fact.eq (.pointer (some ⟨g, a, none⟩)),
                                    Fact.eq (.int .u64 y),
                                    Fact.eq (.bool true),
                                    Fact.eq (.bool false),
                                    Fact.eq (.bool false)]
                                  [[], [], [(0, 115), (1, 116)], [(2, 117)], [(3, 118)], [(3, 118)], [(4, 119), (5, 120), (3, 118)], [(6, 121), (3, 118)], [(3, 118)], [(3, 118)], [(8, 123), (9, 124), (3, 118)], [(10, 125), (3, 118)], [(7, 122), (11, 126), (3, 118)], [(12, 127), (3, 118)], [(3, 118), (13, 128)]]
                                  [(0, 115), (1, 116), (2, 117), (3, 118), (4, 119), (5, 120), (6, 121), (7, 122), (8, 123), (9, 124), (10, 125), (11, 126), (12, 127), (13, 128), (14, 129)] (by kernel_rfl) (by kernel_rfl) ?_ ?_
                                · refine ⟨?_, ?_, ?_, ?_, ?_, ?_, ?_, ?_, ?_, ?_, ?_, ?_, ?_, ?_, ?_, trivial⟩
                                  · intro w1 hx1; change wpList _ _ _ _ _ _; exact ob_move rfl rfl rfl rfl rfl
                                  · intro w1 hx1; change wpList _ _ _ _ _ _; exact ob_move rfl rfl rfl rfl rfl
                                  · intro w1 hx1; rintro _ rfl; rintro _ rfl; change wpList _ _ _ _ _ _; go_wp2_with fail; exact ⟨rfl, Ext.refl _, rfl, rfl⟩
                                  · intro w1 hx1; rintro _ rfl; change wpList _ _ _ _ _ _; exact ob_move rfl rfl rfl rfl rfl
                                  · intro w1 hx1; rintro _ rfl; change wpList _ _ _ _ _ _; exact ob_move rfl rfl rfl rfl rfl
                                  · intro w1 hx1; rintro _ rfl; change wpList _ _ _ _ _ _; exact ob_move rfl rfl rfl rfl rfl
                                  · intro w1 hx1; rintro _ rfl; rintro _ rfl; rintro _ rfl; change wpList _ _ _ _ _ _; go_wp2_with fail; exact ⟨rfl, Ext.refl _, rfl, rfl⟩
                                  · intro w1 hx1; rintro _ rfl; rintro _ rfl; change wpList _ _ _ _ _ _; have m0 := hx1.cell kI; go_wp2_with fail; exact ⟨rfl, Ext.refl _, rfl, rfl⟩
                                  · intro w1 hx1; rintro _ rfl; change wpList _ _ _ _ _ _; exact ob_move rfl rfl rfl rfl rfl
                                  · intro w1 hx1; rintro _ rfl; change wpList _ _ _ _ _ _; exact ob_move rfl rfl rfl rfl rfl
                                  · intro w1 hx1; rintro _ rfl; rintro _ rfl; rintro _ rfl; change wpList _ _ _ _ _ _; go_wp2_with fail; exact ⟨rfl, Ext.refl _, rfl, rfl⟩
                                  · intro w1 hx1; rintro _ rfl; rintro _ rfl; change wpList _ _ _ _ _ _; have m0 := hx1.cell kA; go_wp2_with fail; exact ⟨rfl, Ext.refl _, rfl, rfl⟩
                                  · intro w1 hx1; rintro _ rfl; rintro _ rfl; rintro _ rfl; change wpList _ _ _ _ _ _; go_wp2_with fail; refine (less_yes HL.out _).mono ?_; rintro e w2 ⟨rfl, hx2⟩; go_wp2_with fail; exact ⟨rfl, hx2, rfl, rfl⟩
                                  · intro w1 hx1; rintro _ rfl; rintro _ rfl; change wpList _ _ _ _ _ _; go_wp2_with fail; exact ⟨rfl, Ext.refl _, rfl, rfl⟩
                                  · intro w1 hx1; rintro _ rfl; rintro _ rfl; change wpList _ _ _ _ _ _; exact ob_pick rfl rfl rfl rfl rfl rfl
                                · intro w1 hx1; rintro _ rfl; rintro _ rfl; rintro _ rfl; rintro _ rfl; rintro _ rfl; rintro _ rfl; rintro _ rfl; rintro _ rfl; rintro _ rfl; rintro _ rfl; rintro _ rfl; rintro _ rfl; rintro _ rfl; rintro _ rfl; rintro _ rfl; refine depsThen_nil ?_; dsimp only; simp only [Act.put, List.setIfInBounds_toArray, List.set_cons_zero, List.set_cons_succ]
                                  go_wp2_with fail
                                  go_meet
                                  exact ⟨rfl, hx1⟩
                              | false =>
                                have he : E = true := by rw [HE.out, decide_eq_true hij, hl]; rfl
                                subst he
                                have HL := Lib.hid hl
                                clear hl
                                refine wp_region_facts [Fact.eq (.int .i64 i),
                                    Fact.eq (.int .i64 j),
                                    Fact.eq (.bool true),
                                    Fact.eq (.bool true),
                                    Fact.eq (.slice (some ⟨g, 0, none⟩) N cap),
                                    Fact.eq (.int .i64 j),
                                    Fact.eq (.pointer (some ⟨g, j, none⟩)),
                                    Fact.eq (.int .u64 x),
                                    Fact.eq (.slice (some ⟨g, 0, none⟩) N cap),
                                    Fact.eq (.int .i64 a),
                                    Fact.eq (.pointer (some ⟨g, a, none⟩)),
                                    Fact.eq (.int .u64 y),
                                    Fact.eq (.bool false),
                                    Fact.eq (.bool true),
                                    Fact.eq (.bool true)]
                                  [[], [], [(0, 115), (1, 116)], [(2, 117)], [(3, 118)], [(3, 118)], [(4, 119), (5, 120), (3, 118)], [(6, 121), (3, 118)], [(3, 118)], [(3, 118)], [(8, 123), (9, 124), (3, 118)], [(10, 125), (3, 118)], [(7, 122), (11, 126), (3, 118)], [(12, 127), (3, 118)], [(3, 118), (13, 128)]]
                                  [(0, 115), (1, 116), (2, 117), (3, 118), (4, 119), (5, 120), (6, 121), (7, 122), (8, 123), (9, 124), (10, 125), (11, 126), (12, 127), (13, 128), (14, 129)] (by kernel_rfl) (by kernel_rfl) ?_ ?_
                                · refine ⟨?_, ?_, ?_, ?_, ?_, ?_, ?_, ?_, ?_, ?_, ?_, ?_, ?_, ?_, ?_, trivial⟩
                                  · intro w1 hx1; change wpList _ _ _ _ _ _; exact ob_move rfl rfl rfl rfl rfl
                                  · intro w1 hx1; change wpList _ _ _ _ _ _; exact ob_move rfl rfl rfl rfl rfl
                                  · intro w1 hx1; rintro _ rfl; rintro _ rfl; change wpList _ _ _ _ _ _; go_wp2_with fail; exact ⟨rfl, Ext.refl _, rfl, rfl⟩
                                  · intro w1 hx1; rintro _ rfl; change wpList _ _ _ _ _ _; exact ob_move rfl rfl rfl rfl rfl
                                  · intro w1 hx1; rintro _ rfl; change wpList _ _ _ _ _ _; exact ob_move rfl rfl rfl rfl rfl
                                  · intro w1 hx1; rintro _ rfl; change wpList _ _ _ _ _ _; exact ob_move rfl rfl rfl rfl rfl
                                  · intro w1 hx1; rintro _ rfl; rintro _ rfl; rintro _ rfl; change wpList _ _ _ _ _ _; go_wp2_with fail; exact ⟨rfl, Ext.refl _, rfl, rfl⟩
                                  · intro w1 hx1; rintro _ rfl; rintro _ rfl; change wpList _ _ _ _ _ _; have m0 := hx1.cell kI; go_wp2_with fail; exact ⟨rfl, Ext.refl _, rfl, rfl⟩
                                  · intro w1 hx1; rintro _ rfl; change wpList _ _ _ _ _ _; exact ob_move rfl rfl rfl rfl rfl
                                  · intro w1 hx1; rintro _ rfl; change wpList _ _ _ _ _ _; exact ob_move rfl rfl rfl rfl rfl
                                  · intro w1 hx1; rintro _ rfl; rintro _ rfl; rintro _ rfl; change wpList _ _ _ _ _ _; go_wp2_with fail; exact ⟨rfl, Ext.refl _, rfl, rfl⟩
                                  · intro w1 hx1; rintro _ rfl; rintro _ rfl; change wpList _ _ _ _ _ _; have m0 := hx1.cell kA; go_wp2_with fail; exact ⟨rfl, Ext.refl _, rfl, rfl⟩
                                  · intro w1 hx1; rintro _ rfl; rintro _ rfl; rintro _ rfl; change wpList _ _ _ _ _ _; go_wp2_with fail; refine (less_no HL.out _).mono ?_; rintro e w2 ⟨rfl, hx2⟩; go_wp2_with fail; exact ⟨rfl, hx2, rfl, rfl⟩
                                  · intro w1 hx1; rintro _ rfl; rintro _ rfl; change wpList _ _ _ _ _ _; go_wp2_with fail; exact ⟨rfl, Ext.refl _, rfl, rfl⟩
                                  · intro w1 hx1; rintro _ rfl; rintro _ rfl; change wpList _ _ _ _ _ _; exact ob_pick rfl rfl rfl rfl rfl rfl
                                · intro w1 hx1; rintro _ rfl; rintro _ rfl; rintro _ rfl; rintro _ rfl; rintro _ rfl; rintro _ rfl; rintro _ rfl; rintro _ rfl; rintro _ rfl; rintro _ rfl; rintro _ rfl; rintro _ rfl; rintro _ rfl; rintro _ rfl; rintro _ rfl; refine depsThen_nil ?_; dsimp only; simp only [Act.put, List.setIfInBounds_toArray, List.set_cons_zero, List.set_cons_succ]
                                  go_wp2_with fail
                                  go_meet
                                  exact ⟨rfl, hx1⟩
                            · have hI : decide ((i : Int) ≤ (j : Int)) = false := decide_eq_false (by omega)
                              have he : E = false := by rw [HE.out, decide_eq_false hij]; rfl
                              subst he
                              clear hkI
                              refine wp_region_facts [Fact.eq (.int .i64 i),
                                  Fact.eq (.int .i64 j),
                                  Fact.eq (.bool false),
                                  Fact.eq (.bool false),
                                  Fact.eq undef,
                                  Fact.eq undef,
                                  Fact.eq undef,
                                  Fact.eq undef,
                                  Fact.eq undef,
                                  Fact.eq undef,
                                  Fact.eq undef,
                                  Fact.eq undef,
                                  Fact.eq undef,
                                  Fact.eq undef,
                                  Fact.eq (.bool false)]
                                [[], [], [(0, 115), (1, 116)], [(2, 117)], [(3, 118)], [(3, 118)], [(4, 119), (5, 120), (3, 118)], [(6, 121), (3, 118)], [(3, 118)], [(3, 118)], [(8, 123), (9, 124), (3, 118)], [(10, 125), (3, 118)], [(7, 122), (11, 126), (3, 118)], [(12, 127), (3, 118)], [(3, 118), (13, 128)]]
                                [(0, 115), (1, 116), (2, 117), (3, 118), (4, 119), (5, 120), (6, 121), (7, 122), (8, 123), (9, 124), (10, 125), (11, 126), (12, 127), (13, 128), (14, 129)] (by kernel_rfl) (by kernel_rfl) ?_ ?_
                              · refine ⟨?_, ?_, ?_, ?_, ?_, ?_, ?_, ?_, ?_, ?_, ?_, ?_, ?_, ?_, ?_, trivial⟩
                                · intro w1 hx1; change wpList _ _ _ _ _ _; exact ob_move rfl rfl rfl rfl rfl
                                · intro w1 hx1; change wpList _ _ _ _ _ _; exact ob_move rfl rfl rfl rfl rfl
                                · intro w1 hx1; rintro _ rfl; rintro _ rfl; change wpList _ _ _ _ _ _; go_wp2_with fail; exact ⟨rfl, Ext.refl _, rfl, rfl⟩
                                · intro w1 hx1; rintro _ rfl; change wpList _ _ _ _ _ _; exact ob_move rfl rfl rfl rfl rfl
                                · intro w1 hx1; rintro _ rfl; change wpList _ _ _ _ _ _; exact ob_skip rfl rfl rfl rfl
                                · intro w1 hx1; rintro _ rfl; change wpList _ _ _ _ _ _; exact ob_skip rfl rfl rfl rfl
                                · intro w1 hx1; rintro _ rfl; rintro _ rfl; rintro _ rfl; change wpList _ _ _ _ _ _; exact ob_skip rfl rfl rfl rfl
                                · intro w1 hx1; rintro _ rfl; rintro _ rfl; change wpList _ _ _ _ _ _; exact ob_skip rfl rfl rfl rfl
                                · intro w1 hx1; rintro _ rfl; change wpList _ _ _ _ _ _; exact ob_skip rfl rfl rfl rfl
                                · intro w1 hx1; rintro _ rfl; change wpList _ _ _ _ _ _; exact ob_skip rfl rfl rfl rfl
                                · intro w1 hx1; rintro _ rfl; rintro _ rfl; rintro _ rfl; change wpList _ _ _ _ _ _; exact ob_skip rfl rfl rfl rfl
                                · intro w1 hx1; rintro _ rfl; rintro _ rfl; change wpList _ _ _ _ _ _; exact ob_skip rfl rfl rfl rfl
                                · intro w1 hx1; rintro _ rfl; rintro _ rfl; rintro _ rfl; change wpList _ _ _ _ _ _; exact ob_skip rfl rfl rfl rfl
                                · intro w1 hx1; rintro _ rfl; rintro _ rfl; change wpList _ _ _ _ _ _; exact ob_skip rfl rfl rfl rfl
                                · intro w1 hx1; rintro _ rfl; rintro _ rfl; change wpList _ _ _ _ _ _; exact ob_pick rfl rfl rfl rfl rfl rfl
                              · intro w1 hx1; rintro _ rfl; rintro _ rfl; rintro _ rfl; rintro _ rfl; rintro _ rfl; rintro _ rfl; rintro _ rfl; rintro _ rfl; rintro _ rfl; rintro _ rfl; rintro _ rfl; rintro _ rfl; rintro _ rfl; rintro _ rfl; rintro _ rfl; refine depsThen_nil ?_; dsimp only; simp only [Act.put, List.setIfInBounds_toArray, List.set_cons_zero, List.set_cons_succ]
                                go_wp2_with fail
                                go_meet
                                exact ⟨rfl, hx1⟩
                          case rest =>
                            obtain ⟨rfl, hx1⟩ := hcut
                            have HXN := Lib.hid (hx.out.trans hx1)
                            clear hx1 hx
                            cases E with
                            | true =>
                              have hp := HE.out.symm
                              simp only [Bool.and_eq_true, decide_eq_true_eq] at hp
                              obtain ⟨jd, hjj⟩ : ∃ jd, j = jd + 1 := ⟨j - 1, by omega⟩
                              have qj : (j : Int) - 1 = (jd : Int) := by omega
                              have HS2 : Hid (Sort.scanDown (fun x => !ltN x dk[a]!) dk i jd = Sort.scanDown (fun x => !ltN x dk[a]!) dk i jj) := by
                                show _ = _
                                rw [← hs.out]
                                exact (scanDown_go hp.1 hjj (by rw [X.out, Y.out]; exact hp.2)).symm
                              have hq := hp.1
                              have HJJ := Lib.hid hjj
                              clear hp hs HE X Y hjj
                              go_wp2_with fail
                              go_roundw
                              case rel => exact ⟨jd, rfl, .inr (by have := HJJ.out; omega), by have := HJJ.out; omega, HS2, HXN⟩
                              case measure => have := HJJ.out; simp [intOf]; omega
                            | false =>
                              have HJ2 : Hid (Sort.scanDown (fun x => !ltN x dk[a]!) dk i jj = j) := by
                                show _ = _
                                rw [← hs.out]
                                refine scanDown_stop (fun hq => ?_)
                                have hp := HE.out
                                rw [X.out, Y.out] at hq
                                rw [decide_eq_true hq.1, hq.2] at hp
                                cases hp
                              clear hs HE X Y
                              have HU2 := Lib.hid (HUT.out.ext HXN.out)
                              have HG2 := Lib.hid (grown_trans HGT.out (grown_of_ext HXN.out))
                              clear HXN
                              have hja : a ≤ j ∧ j < N := by omega
                              by_cases hij : j < i
                              · have hI : decide ((j : Int) < (i : Int)) = true := decide_eq_true (by omega)
                                have hR := partLoop_stop HI2.out HJ2.out hij
                                rw [HE4.out] at hR
                                have HR := Lib.hid hR
                                clear hR HI2 HJ2 HE4
                                have c0 := HU2.out.cell (i := j) (by rw [HSD.out]; omega)
                                have c1 := HU2.out.cell (i := a) (by rw [HSD.out]; omega)
                                have z0 := HU2.out.free j
                                have z1 := HU2.out.free a
                                have hw := uO_swp HU2.out (i := j) (j := a) (by rw [HSD.out]; omega) (by rw [HSD.out]; omega)
                                have HW := Lib.hid hw
                                clear hw
                                have b0 : (j : Int) < (N : Int) := by omega
                                have b1 : (a : Int) < (N : Int) := by omega
                                obtain ⟨v', hy'⟩ := cell?_setCell_some (w := wc) (p := ⟨g, j, none⟩) (x := .int .u64 dk[a]!) (q := ⟨g, a, none⟩) c1
                                generalize dk[j]! = y0 at *
                                generalize dk[a]! = y1 at *
                                go_upto_region 21 with fail
                                go_region
                                obtain ⟨h1, h2⟩ := HW.out
                                have HE1 := Lib.hid (h1.ext (Ext.refl _).drew)
                                have HE2 := Lib.hid (grown_trans (grown_trans HG2.out h2) (grown_of_ext (Ext.refl _).drew))
                                clear h1 h2 c0 c1 z0 z1 HW b0 b1 hy'
                                generalize World.drew _ = w4 at *
                                go_wp2_with fail
                                go_ret2
                                exact ⟨by rw [HP.out, HR.out]; rfl, by rw [HP.out, HR.out]; exact ⟨HE1.out, HE2.out⟩⟩
                              · have hI : decide ((j : Int) < (i : Int)) = false := decide_eq_false (by omega)
                                have hR := partLoop_go HI2.out HJ2.out hij h1 h4
                                rw [HE4.out] at hR
                                have HR := Lib.hid hR
                                clear hR HI2 HJ2 HE4
                                obtain ⟨j1, hj1⟩ : ∃ x, x = j - 1 := ⟨_, rfl⟩
                                have qj1 : (j : Int) - 1 = (j1 : Int) := by omega
                                have hj1b : a ≤ j1 ∧ j1 < b ∧ i + 1 ≤ j1 + 2 := by omega
                                have HJ1 := Lib.hid hj1
                                clear hj1
                                have c0 := HU2.out.cell (i := i) (by rw [HSD.out]; omega)
                                have c1 := HU2.out.cell (i := j) (by rw [HSD.out]; omega)
                                have z0 := HU2.out.free i
                                have z1 := HU2.out.free j
                                have hw := uO_swp HU2.out (i := i) (j := j) (by rw [HSD.out]; omega) (by rw [HSD.out]; omega)
                                have HW := Lib.hid hw
                                clear hw
                                have b0 : (i : Int) < (N : Int) := by omega
                                have b1 : (j : Int) < (N : Int) := by omega
                                obtain ⟨v', hy'⟩ := cell?_setCell_some (w := wc) (p := ⟨g, i, none⟩) (x := .int .u64 dk[j]!) (q := ⟨g, j, none⟩) c1
                                generalize dk[i]! = y0 at *
                                generalize dk[j]! = y1 at *
                                go_upto_region 18 with fail
                                go_region
                                obtain ⟨h1, h2⟩ := HW.out
                                have HF1 := Lib.hid (h1.ext (Ext.refl _).drew)
                                have HF2 := Lib.hid (grown_trans (grown_trans HG2.out h2) (grown_of_ext (Ext.refl _).drew))
                                clear h1 h2 c0 c1 z0 z1 HW b0 b1 hy'
                                generalize World.drew _ = w4 at *
                                go_wp2_with fail
                                go_roundw
                                case rel => exact ⟨i + 1, j1, by go_num, rfl, by omega, hj1b.1, hj1b.2.1, hj1b.2.2, _, (swp_size _ _ _).trans HSD.out, HF1.out, HF2.out, by rw [HJ1.out]; exact HR.out.symm⟩
                                case measure => have := HJ1.out; simp [intOf]; omega
end Go.Proofs.Ytlgopjfnknjgjaa