/- partialInsertionSortOrdered at uint64 (58). -/
import Derived.Test.YtlgopjfnknjgjaaU10
namespace Go.Proofs.Ytlgopjfnknjgjaa
open Go.RowKit

theorem scanSorted_go {d : Array Nat} {b i : Nat} (h : i < b) (hl : ltN d[i]! d[i - 1]! = false) : Sort.scanSorted ltN d b i = Sort.scanSorted ltN d b (i + 1) := by
  conv => lhs; unfold Sort.scanSorted
  rw [if_pos (by simp [h, hl])]
theorem scanSorted_stop {d : Array Nat} {b i : Nat} (h : ¬ (i < b ∧ ltN d[i]! d[i - 1]! = false)) : Sort.scanSorted ltN d b i = i := by
  unfold Sort.scanSorted
  rw [if_neg (by simpa using h)]
theorem shiftDown_stop {d : Array Nat} {j jj : Nat} (hj : j = jj + 1) (h : ltN d[j]! d[jj]! = false) : Sort.shiftDown ltN j d = d := by
  subst hj; unfold Sort.shiftDown; rw [if_pos (by simp [h])]
theorem shiftDown_go {d : Array Nat} {j jj : Nat} (hj : j = jj + 1) (h : ltN d[j]! d[jj]! = true) : Sort.shiftDown ltN j d = Sort.shiftDown ltN jj (Sort.swp d j jj) := by
  subst hj
  conv => lhs; unfold Sort.shiftDown
  rw [if_neg (by simp [h])]
theorem shiftUp_end {d : Array Nat} {b j : Nat} (h : ¬ j < b) : Sort.shiftUp ltN b j d = d := by
  unfold Sort.shiftUp; rw [if_neg h]
theorem shiftUp_stop {d : Array Nat} {b j : Nat} (h : j < b) (hl : ltN d[j]! d[j - 1]! = false) : Sort.shiftUp ltN b j d = d := by
  unfold Sort.shiftUp; rw [if_pos h, if_pos (by simp [hl])]
theorem shiftUp_go {d : Array Nat} {b j : Nat} (h : j < b) (hl : ltN d[j]! d[j - 1]! = true) : Sort.shiftUp ltN b j d = Sort.shiftUp ltN b (j + 1) (Sort.swp d j (j - 1)) := by
  conv => lhs; unfold Sort.shiftUp
  rw [if_pos h, if_neg (by simp [hl])]

/-- What the piece has to tell: the answer and the row. -/
def PinsQ (base g cap : Nat) (w : World) (R : Array Nat × Bool) (e : Ending) (w' : World) : Prop := e = .returned (.bool R.2) ∧ UOq base g cap w R.1 w'

set_option maxRecDepth 100000 in
set_option maxHeartbeats 64000000 in
theorem pins_any (base g cap : Nat) (d : Array Nat) (a b : Nat) (w : World) (ho : UO base g cap w d) (hab : a < b) (hb : b ≤ d.size) (hsz : d.size ≤ 1000000) :
    Calls Try.prog 58 #[.slice (some ⟨g, 0, none⟩) d.size cap, .int .i64 a, .int .i64 b] w (PinsQ base g cap w (Sort.partialInsertionSort ltN d a b)) := by
  have HO := Lib.hid ho
  clear ho
  obtain ⟨RES, hres⟩ : ∃ R, Sort.partialIns ltN a b 5 (a + 1) d = R := ⟨_, rfl⟩
  have hpe : Sort.partialInsertionSort ltN d a b = RES := hres
  rw [hpe]
  have HRES := Lib.hid hres
  clear hpe hres
  generalize hN : d.size = N at *
  have HS := Lib.hid hN
  clear hN
  obtain ⟨l0, hl0⟩ : ∃ x, x = b - a := ⟨_, rfl⟩
  have ql : (b : Int) - (a : Int) = (l0 : Int) := by omega
  have hl1 : l0 ≤ N := by omega
  have HL0 := Lib.hid hl0
  clear hl0
  go_enter Try.func58, Try.ntmps58
  go_wp2_with fail
  go_loopw [7, 8] (fun iv sv wq => ∃ i s : Nat, iv = .int .i64 i ∧ sv = .int .i64 s ∧ a < i ∧ i ≤ b ∧ s ≤ 5 ∧ Hid (∃ dk : Array Nat, dk.size = N ∧ UO base g cap wq dk ∧ w.grownBy wq (some g) ∧ Sort.partialIns ltN a b (5 - s) i dk = RES)) (fun _ sv _ => 5 - (intOf sv).toNat)
  case atStart => exact ⟨a + 1, 0, by go_num, rfl, by omega, by omega, by omega, d, HS.out, HO.out, grown_refl _ _, HRES.out⟩
  case round =>
    obtain ⟨i, s, rfl, rfl, hai, hib, hs5, hst⟩ := hrel
    obtain ⟨dk, e1, e2, e3, e4⟩ := hst.out
    have HSD := Lib.hid e1
    have HU := Lib.hid e2
    have HG := Lib.hid e3
    have HE4 := Lib.hid e4
    clear e1 e2 e3 e4 hst HO HRES HS
    by_cases hs : s < 5
    · have hI0 : decide ((s : Int) < 5) = true := decide_eq_true (by omega)
      obtain ⟨t, ht⟩ : ∃ t, 5 - s = t + 1 := ⟨4 - s, by omega⟩
      rw [ht] at HE4
      have HT := Lib.hid ht
      clear ht
      go_wp2_with fail
      obtain ⟨wS, rfl⟩ : ∃ x : World, x = wr := ⟨_, rfl⟩
      go_loopw [7] (fun v wq => ∃ k : Nat, v = .int .i64 k ∧ i ≤ k ∧ k ≤ b ∧ Hid (Sort.scanSorted ltN dk b k = Sort.scanSorted ltN dk b i) ∧ Hid (Ext wS wq)) (fun v _ => b - (intOf v).toNat)
      case atStart => exact ⟨i, rfl, Nat.le_refl _, hib, rfl, Ext.refl _⟩
      case round =>
        obtain ⟨k, rfl, h1, h2, hsc, hx⟩ := hrel
        have ho := HU.out.ext hx.out
        obtain ⟨x, hxv⟩ : ∃ x, dk[k]! = x := ⟨_, rfl⟩
        obtain ⟨y, hyv⟩ : ∃ y, dk[k - 1]! = y := ⟨_, rfl⟩
        obtain ⟨k1, hk1⟩ : ∃ z, z = k - 1 := ⟨_, rfl⟩
        have qk : (k : Int) - 1 = (k1 : Int) := by omega
        have kA : wr.cell? ⟨g, k1, none⟩ = some (.int .u64 y) := by rw [← hyv, ← hk1]; exact ho.cell (by rw [HSD.out]; omega)
        have hkI : k < N → wr.cell? ⟨g, k, none⟩ = some (.int .u64 x) := fun h => by rw [← hxv]; exact ho.cell (by rw [HSD.out]; exact h)
        have hk1N : (k1 : Int) < (N : Int) := by omega
        have X := Lib.hid hxv
        have Y := Lib.hid hyv
        have HK1 := Lib.hid hk1
        clear hxv hyv ho hk1
        obtain ⟨E, hE⟩ : ∃ E, E = (decide (k < b) && !ltN x y) := ⟨_, rfl⟩
        have HE := Lib.hid hE
        clear hE
        go_upto_region 5 with fail
        go_cut [32] from 17 to 32 (fun vL wx => vL = .bool E ∧ Ext wr wx)
        case first =>
          by_cases hkb : k < b
          · have hI : decide ((k : Int) < (b : Int)) = true := decide_eq_true (by omega)
            have kI := hkI (by omega)
            have hvN : (k : Int) < (N : Int) := by omega
            clear hkI
            cases hl : ltN x y with
            | true =>
              have he : E = false := by rw [HE.out, decide_eq_true hkb, hl]; rfl
              subst he
              have HL := Lib.hid hl
              clear hl
              refine wp_region_facts [Fact.eq (.int .i64 k),
                  Fact.eq (.int .i64 b),
                  Fact.eq (.bool true),
                  Fact.eq (.bool true),
                  Fact.eq (.slice (some ⟨g, 0, none⟩) N cap),
                  Fact.eq (.int .i64 k),
                  Fact.eq (.pointer (some ⟨g, k, none⟩)),
                  Fact.eq (.int .u64 x),
                  Fact.eq (.slice (some ⟨g, 0, none⟩) N cap),
                  Fact.eq (.int .i64 k),
                  Fact.eq (.int .i64 k1),
                  Fact.eq (.pointer (some ⟨g, k1, none⟩)),
                  Fact.eq (.int .u64 y),
                  Fact.eq (.bool true),
                  Fact.eq (.bool false),
                  Fact.eq (.bool false)]
                [[], [], [(0, 17), (1, 18)], [(2, 19)], [(3, 20)], [(3, 20)], [(4, 21), (5, 22), (3, 20)], [(6, 23), (3, 20)], [(3, 20)], [(3, 20)], [(9, 26), (3, 20)], [(8, 25), (10, 27), (3, 20)], [(11, 28), (3, 20)], [(7, 24), (12, 29), (3, 20)], [(13, 30), (3, 20)], [(3, 20), (14, 31)]]
                [(0, 17), (1, 18), (2, 19), (3, 20), (4, 21), (5, 22), (6, 23), (7, 24), (8, 25), (9, 26), (10, 27), (11, 28), (12, 29), (13, 30), (14, 31), (15, 32)] (by kernel_rfl) (by kernel_rfl) ?_ ?_
              · refine ⟨?_, ?_, ?_, ?_, ?_, ?_, ?_, ?_, ?_, ?_, ?_, ?_, ?_, ?_, ?_, ?_, trivial⟩
                · intro w1 hx1; change wpList _ _ _ _ _ _; exact ob_move rfl rfl rfl rfl rfl
                · intro w1 hx1; change wpList _ _ _ _ _ _; exact ob_move rfl rfl rfl rfl rfl
                · intro w1 hx1; rintro _ rfl; rintro _ rfl; change wpList _ _ _ _ _ _; go_wp2_with fail; exact ⟨rfl, Ext.refl _, rfl, rfl⟩
                · intro w1 hx1; rintro _ rfl; change wpList _ _ _ _ _ _; exact ob_move rfl rfl rfl rfl rfl
                · intro w1 hx1; rintro _ rfl; change wpList _ _ _ _ _ _; exact ob_move rfl rfl rfl rfl rfl
                · intro w1 hx1; rintro _ rfl; change wpList _ _ _ _ _ _; exact ob_move rfl rfl rfl rfl rfl
                · intro w1 hx1; rintro _ rfl; rintro _ rfl; rintro _ rfl; change wpList _ _ _ _ _ _; go_wp2_with fail; exact ⟨rfl, Ext.refl _, rfl, rfl⟩
                · intro w1 hx1; rintro _ rfl; rintro _ rfl; change wpList _ _ _ _ _ _; have m0 := hx1.cell kI; go_wp2_with fail; exact ⟨rfl, Ext.refl _, rfl, rfl⟩
                · intro w1 hx1; rintro _ rfl; change wpList _ _ _ _ _ _; exact ob_move rfl rfl rfl rfl rfl
                · intro w1 hx1; rintro _ rfl; change wpList _ _ _ _ _ _; exact ob_move rfl rfl rfl rfl rfl
                · intro w1 hx1; rintro _ rfl; rintro _ rfl; change wpList _ _ _ _ _ _; go_wp2_with fail; exact ⟨rfl, Ext.refl _, rfl, rfl⟩
                · intro w1 hx1; rintro _ rfl; rintro _ rfl; rintro _ rfl; change wpList _ _ _ _ _ _; go_wp2_with fail; exact ⟨rfl, Ext.refl _, rfl, rfl⟩
                · intro w1 hx1; rintro _ rfl; rintro _ rfl; change wpList _ _ _ _ _ _; have m0 := hx1.cell kA; go_wp2_with fail; exact ⟨rfl, Ext.refl _, rfl, rfl⟩
                · intro w1 hx1; rintro _ rfl; rintro _ rfl; rintro _ rfl; change wpList _ _ _ _ _ _; go_wp2_with fail; refine (less_yes HL.out _).mono ?_; rintro e w2 ⟨rfl, hx2⟩; go_wp2_with fail; exact ⟨rfl, hx2, rfl, rfl⟩
                · intro w1 hx1; rintro _ rfl; rintro _ rfl; change wpList _ _ _ _ _ _; go_wp2_with fail; exact ⟨rfl, Ext.refl _, rfl, rfl⟩
                · intro w1 hx1; rintro _ rfl; rintro _ rfl; change wpList _ _ _ _ _ _; exact ob_pick rfl rfl rfl rfl rfl rfl
              · intro w1 hx1; rintro _ rfl; rintro _ rfl; rintro _ rfl; rintro _ rfl; rintro _ rfl; rintro _ rfl; rintro _ rfl; rintro _ rfl; rintro _ rfl; rintro _ rfl; rintro _ rfl; rintro _ rfl; rintro _ rfl; rintro _ rfl; rintro _ rfl; rintro _ rfl; refine depsThen_nil ?_; dsimp only; simp only [Act.put, List.setIfInBounds_toArray, List.set_cons_zero, List.set_cons_succ]
                go_wp2_with fail
                go_meet
                exact ⟨rfl, hx1⟩
            | false =>
              have he : E = true := by rw [HE.out, decide_eq_true hkb, hl]; rfl
              subst he
              have HL := Lib.hid hl
              clear hl
              refine wp_region_facts [Fact.eq (.int .i64 k),
                  Fact.eq (.int .i64 b),
                  Fact.eq (.bool true),
                  Fact.eq (.bool true),
                  Fact.eq (.slice (some ⟨g, 0, none⟩) N cap),
                  Fact.eq (.int .i64 k),
                  Fact.eq (.pointer (some ⟨g, k, none⟩)),
                  Fact.eq (.int .u64 x),
                  Fact.eq (.slice (some ⟨g, 0, none⟩) N cap),
                  Fact.eq (.int .i64 k),
                  Fact.eq (.int .i64 k1),
                  Fact.eq (.pointer (some ⟨g, k1, none⟩)),
                  Fact.eq (.int .u64 y),
                  Fact.eq (.bool false),
                  Fact.eq (.bool true),
                  Fact.eq (.bool true)]
                [[], [], [(0, 17), (1, 18)], [(2, 19)], [(3, 20)], [(3, 20)], [(4, 21), (5, 22), (3, 20)], [(6, 23), (3, 20)], [(3, 20)], [(3, 20)], [(9, 26), (3, 20)], [(8, 25), (10, 27), (3, 20)], [(11, 28), (3, 20)], [(7, 24), (12, 29), (3, 20)], [(13, 30), (3, 20)], [(3, 20), (14, 31)]]
                [(0, 17), (1, 18), (2, 19), (3, 20), (4, 21), (5, 22), (6, 23), (7, 24), (8, 25), (9, 26), (10, 27), (11, 28), (12, 29), (13, 30), (14, 31), (15, 32)] (by kernel_rfl) (by kernel_rfl) ?_ ?_
              · refine ⟨?_, ?_, ?_, ?_, ?_, ?_, ?_, ?_, ?_, ?_, ?_, ?_, ?_, ?_, ?_, ?_, trivial⟩
                · intro w1 hx1; change wpList _ _ _ _ _ _; exact ob_move rfl rfl rfl rfl rfl
                · intro w1 hx1; change wpList _ _ _ _ _ _; exact ob_move rfl rfl rfl rfl rfl
                · intro w1 hx1; rintro _ rfl; rintro _ rfl; change wpList _ _ _ _ _ _; go_wp2_with fail; exact ⟨rfl, Ext.refl _, rfl, rfl⟩
                · intro w1 hx1; rintro _ rfl; change wpList _ _ _ _ _ _; exact ob_move rfl rfl rfl rfl rfl
                · intro w1 hx1; rintro _ rfl; change wpList _ _ _ _ _ _; exact ob_move rfl rfl rfl rfl rfl
                · intro w1 hx1; rintro _ rfl; change wpList _ _ _ _ _ _; exact ob_move rfl rfl rfl rfl rfl
                · intro w1 hx1; rintro _ rfl; rintro _ rfl; rintro _ rfl; change wpList _ _ _ _ _ _; go_wp2_with fail; exact ⟨rfl, Ext.refl _, rfl, rfl⟩
                · intro w1 hx1; rintro _ rfl; rintro _ rfl; change wpList _ _ _ _ _ _; have m0 := hx1.cell kI; go_wp2_with fail; exact ⟨rfl, Ext.refl _, rfl, rfl⟩
                · intro w1 hx1; rintro _ rfl; change wpList _ _ _ _ _ _; exact ob_move rfl rfl rfl rfl rfl
                · intro w1 hx1; rintro _ rfl; change wpList _ _ _ _ _ _; exact ob_move rfl rfl rfl rfl rfl
                · intro w1 hx1; rintro _ rfl; rintro _ rfl; change wpList _ _ _ _ _ _; go_wp2_with fail; exact ⟨rfl, Ext.refl _, rfl, rfl⟩
                · intro w1 hx1; rintro _ rfl; rintro _ rfl; rintro _ rfl; change wpList _ _ _ _ _ _; go_wp2_with fail; exact ⟨rfl, Ext.refl _, rfl, rfl⟩
                · intro w1 hx1; rintro _ rfl; rintro _ rfl; change wpList _ _ _ _ _ _; have m0 := hx1.cell kA; go_wp2_with fail; exact ⟨rfl, Ext.refl _, rfl, rfl⟩
                · intro w1 hx1; rintro _ rfl; rintro _ rfl; rintro _ rfl; change wpList _ _ _ _ _ _; go_wp2_with fail; refine (less_no HL.out _).mono ?_; rintro e w2 ⟨rfl, hx2⟩; go_wp2_with fail; exact ⟨rfl, hx2, rfl, rfl⟩
                · intro w1 hx1; rintro _ rfl; rintro _ rfl; change wpList _ _ _ _ _ _; go_wp2_with fail; exact ⟨rfl, Ext.refl _, rfl, rfl⟩
                · intro w1 hx1; rintro _ rfl; rintro _ rfl; change wpList _ _ _ _ _ _; exact ob_pick rfl rfl rfl rfl rfl rfl
              · intro w1 hx1; rintro _ rfl; rintro _ rfl; rintro _ rfl; rintro _ rfl; rintro _ rfl; rintro _ rfl; rintro _ rfl; rintro _ rfl; rintro _ rfl; rintro _ rfl; rintro _ rfl; rintro _ rfl; rintro _ rfl; rintro _ rfl; rintro _ rfl; rintro _ rfl; refine depsThen_nil ?_; dsimp only; simp only [Act.put, List.setIfInBounds_toArray, List.set_cons_zero, List.set_cons_succ]
                go_wp2_with fail
                go_meet
                exact ⟨rfl, hx1⟩
          · have hI : decide ((k : Int) < (b : Int)) = false := decide_eq_false (by omega)
            have he : E = false := by rw [HE.out, decide_eq_false hkb]; rfl
            subst he
            clear hkI
            refine wp_region_facts [Fact.eq (.int .i64 k),
                Fact.eq (.int .i64 b),
                Fact.eq (.bool false),
                Fact.eq (.bool false),
                Fact.eq undef,
                Fact.eq undef,
                Fact.eq undef,
                Fact.eq undef,
                Fact.eq undef,
                Fact.eq undef,
                Fact.eq undef,
                Fact.eq undef,
                Fact.eq undef,
                Fact.eq undef,
                Fact.eq undef,
                Fact.eq (.bool false)]
              [[], [], [(0, 17), (1, 18)], [(2, 19)], [(3, 20)], [(3, 20)], [(4, 21), (5, 22), (3, 20)], [(6, 23), (3, 20)], [(3, 20)], [(3, 20)], [(9, 26), (3, 20)], [(8, 25), (10, 27), (3, 20)], [(11, 28), (3, 20)], [(7, 24), (12, 29), (3, 20)], [(13, 30), (3, 20)], [(3, 20), (14, 31)]]
              [(0, 17), (1, 18), (2, 19), (3, 20), (4, 21), (5, 22), (6, 23), (7, 24), (8, 25), (9, 26), (10, 27), (11, 28), (12, 29), (13, 30), (14, 31), (15, 32)] (by kernel_rfl) (by kernel_rfl) ?_ ?_
            · refine ⟨?_, ?_, ?_, ?_, ?_, ?_, ?_, ?_, ?_, ?_, ?_, ?_, ?_, ?_, ?_, ?_, trivial⟩
              · intro w1 hx1; change wpList _ _ _ _ _ _; exact ob_move rfl rfl rfl rfl rfl
              · intro w1 hx1; change wpList _ _ _ _ _ _; exact ob_move rfl rfl rfl rfl rfl
              · intro w1 hx1; rintro _ rfl; rintro _ rfl; change wpList _ _ _ _ _ _; go_wp2_with fail; exact ⟨rfl, Ext.refl _, rfl, rfl⟩
              · intro w1 hx1; rintro _ rfl; change wpList _ _ _ _ _ _; exact ob_move rfl rfl rfl rfl rfl
              · intro w1 hx1; rintro _ rfl; change wpList _ _ _ _ _ _; exact ob_skip rfl rfl rfl rfl
              · intro w1 hx1; rintro _ rfl; change wpList _ _ _ _ _ _; exact ob_skip rfl rfl rfl rfl
              · intro w1 hx1; rintro _ rfl; rintro _ rfl; rintro _ rfl; change wpList _ _ _ _ _ _; exact ob_skip rfl rfl rfl rfl
              · intro w1 hx1; rintro _ rfl; rintro _ rfl; change wpList _ _ _ _ _ _; exact ob_skip rfl rfl rfl rfl
              · intro w1 hx1; rintro _ rfl; change wpList _ _ _ _ _ _; exact ob_skip rfl rfl rfl rfl
              · intro w1 hx1; rintro _ rfl; change wpList _ _ _ _ _ _; exact ob_skip rfl rfl rfl rfl
              · intro w1 hx1; rintro _ rfl; rintro _ rfl; change wpList _ _ _ _ _ _; exact ob_skip rfl rfl rfl rfl
              · intro w1 hx1; rintro _ rfl; rintro _ rfl; rintro _ rfl; change wpList _ _ _ _ _ _; exact ob_skip rfl rfl rfl rfl
              · intro w1 hx1; rintro _ rfl; rintro _ rfl; change wpList _ _ _ _ _ _; exact ob_skip rfl rfl rfl rfl
              · intro w1 hx1; rintro _ rfl; rintro _ rfl; rintro _ rfl; change wpList _ _ _ _ _ _; exact ob_skip rfl rfl rfl rfl
              · intro w1 hx1; rintro _ rfl; rintro _ rfl; change wpList _ _ _ _ _ _; exact ob_skip rfl rfl rfl rfl
              · intro w1 hx1; rintro _ rfl; rintro _ rfl; change wpList _ _ _ _ _ _; exact ob_pick rfl rfl rfl rfl rfl rfl
            · intro w1 hx1; rintro _ rfl; rintro _ rfl; rintro _ rfl; rintro _ rfl; rintro _ rfl; rintro _ rfl; rintro _ rfl; rintro _ rfl; rintro _ rfl; rintro _ rfl; rintro _ rfl; rintro _ rfl; rintro _ rfl; rintro _ rfl; rintro _ rfl; rintro _ rfl; refine depsThen_nil ?_; dsimp only; simp only [Act.put, List.setIfInBounds_toArray, List.set_cons_zero, List.set_cons_succ]
              go_wp2_with fail
              go_meet
              exact ⟨rfl, hx1⟩
        case rest =>
          obtain ⟨rfl, hx1⟩ := hcut
          have HXN := Lib.hid (hx.out.trans hx1)
          clear hx1 hx kA hkI
          cases E with
          | true =>
            have hp := HE.out.symm
            simp only [Bool.and_eq_true, decide_eq_true_eq, Bool.not_eq_true'] at hp
            have HS2 : Hid (Sort.scanSorted ltN dk b (k + 1) = Sort.scanSorted ltN dk b i) := by
              show _ = _
              rw [← hsc.out]
              exact (scanSorted_go hp.1 (by rw [X.out, Y.out]; exact hp.2)).symm
            have hq := hp.1
            clear hp hsc HE X Y
            go_wp2_with fail
            go_roundw
            case rel => exact ⟨k + 1, by go_num, by omega, by omega, HS2, HXN⟩
            case measure => simp [intOf]; omega
          | false =>
            have HI2 : Hid (Sort.scanSorted ltN dk b i = k) := by
              show _ = _
              rw [← hsc.out]
              refine scanSorted_stop (fun hq => ?_)
              have hp := HE.out
              rw [X.out, Y.out] at hq
              rw [decide_eq_true hq.1, hq.2] at hp
              cases hp
            clear hsc HE X Y
            have HU2 := Lib.hid (HU.out.ext HXN.out)
            have HG2 := Lib.hid (grown_trans HG.out (grown_of_ext HXN.out))
            clear HXN
            by_cases hkb : k = b
            · subst hkb
              have hR : RES = (dk, true) := by
                have := HE4.out
                unfold Sort.partialIns at this
                simp only [HI2.out] at this
                rw [if_pos trivial] at this
                exact this.symm
              have HR := Lib.hid hR
              clear hR
              go_wp2_with fail
              go_ret
              exact ⟨by rw [HR.out]; rfl, by rw [HR.out]; exact ⟨HU2.out, HG2.out⟩⟩
            · have hb1 : ((k : Int) == (b : Int)) = false := beq_eq_false_iff_ne.2 (by omega)
              have hb2 : (k == b) = false := beq_eq_false_iff_ne.2 hkb
              by_cases h50 : l0 < 50
              · have hI5 : decide ((l0 : Int) < 50) = true := decide_eq_true (by omega)
                have hR : RES = (dk, false) := by
                  have := HE4.out
                  unfold Sort.partialIns at this
                  simp only [HI2.out] at this
                  rw [if_neg hkb, if_pos (by rw [← HL0.out]; exact h50)] at this
                  exact this.symm
                have HR := Lib.hid hR
                clear hR
                go_wp2_with fail
                go_ret
                exact ⟨by rw [HR.out]; rfl, by rw [HR.out]; exact ⟨HU2.out, HG2.out⟩⟩
              · have hI5 : decide ((l0 : Int) < 50) = false := decide_eq_false (by omega)
                have hkN : k < N := by omega
                have HKB := Lib.hid (show Sort.partialIns ltN a b t k (if b - k ≥ 2 then Sort.shiftUp ltN b (k + 1) (if k - a ≥ 2 then Sort.shiftDown ltN k1 (Sort.swp dk k k1) else Sort.swp dk k k1) else (if k - a ≥ 2 then Sort.shiftDown ltN k1 (Sort.swp dk k k1) else Sort.swp dk k k1)) = RES by
                  have := HE4.out
                  unfold Sort.partialIns at this
                  simp only [HI2.out] at this
                  rw [if_neg hkb, if_neg (by rw [← HL0.out]; omega)] at this
                  rw [HK1.out]
                  exact this)

                have hk1b : k1 < N ∧ k1 + 1 = k := by have := HK1.out; omega
                clear HE4 HI2 HU HG
                have c0 := HU2.out.cell (i := k) (by rw [HSD.out]; omega)
                have c1 := HU2.out.cell (i := k1) (by rw [HSD.out]; omega)
                have z0 := HU2.out.free k
                have z1 := HU2.out.free k1
                have hw := uO_swp HU2.out (i := k) (j := k1) (by rw [HSD.out]; omega) (by rw [HSD.out]; omega)
                have HW := Lib.hid hw
                clear hw
                have b0 : (k : Int) < (N : Int) := by omega
                have b1 : (k1 : Int) < (N : Int) := by omega
                obtain ⟨v', hy'⟩ := cell?_setCell_some (w := wc) (p := ⟨g, k, none⟩) (x := .int .u64 dk[k1]!) (q := ⟨g, k1, none⟩) c1
                generalize dk[k]! = y0 at *
                generalize dk[k1]! = y1 at *
                go_upto_region 11 with fail
                go_region
                obtain ⟨h1, h2⟩ := HW.out
                have HW1 := Lib.hid (h1.ext (Ext.refl _).drew)
                have HW2 := Lib.hid (grown_trans (grown_trans HG2.out h2) (grown_of_ext (Ext.refl _).drew))
                clear h1 h2 c0 c1 z0 z1 HW b0 b1 hy'
                have HW3 := Lib.hid ((swp_size dk k k1).trans HSD.out)
                generalize hdw : Sort.swp dk k k1 = dw at *
                clear hdw HU2 HG2 HSD
                generalize World.drew _ = w3 at *
                obtain ⟨kd, hkd⟩ : ∃ z, z = k - a := ⟨_, rfl⟩
                have qkd : (k : Int) - (a : Int) = (kd : Int) := by omega
                have hkd2 : kd ≤ N := by omega
                have HKD := Lib.hid hkd
                obtain ⟨bd, hbd⟩ : ∃ z, z = b - k := ⟨_, rfl⟩
                have qbd : (b : Int) - (k : Int) = (bd : Int) := by omega
                have hbd2 : bd ≤ N := by omega
                have HBD := Lib.hid hbd
                rw [← hkd, ← hbd] at HKB
                clear hkd hbd
                obtain ⟨D1, hD1⟩ : ∃ D, (if kd ≥ 2 then Sort.shiftDown ltN k1 dw else dw) = D := ⟨_, rfl⟩
                rw [hD1] at HKB
                have HD1 := Lib.hid hD1
                clear hD1
                go_upto_if 61 with fail
                go_cut [9] from 62 to 94 (fun v9 wx => D1.size = N ∧ UO base g cap wx D1 ∧ w.grownBy wx (some g))
                case first =>
                  clear HKB HBD HL0 HK1 qbd hbd2
                  by_cases h2 : 2 ≤ kd
                  · have hI9 : decide ((2 : Int) ≤ (kd : Int)) = true := decide_eq_true (by omega)
                    have hd : Sort.shiftDown ltN k1 dw = D1 := by have := HD1.out; rw [if_pos h2] at this; exact this
                    have HD2 := Lib.hid hd
                    clear hd HD1
                    go_wp2_with fail
                    go_loopw [9] (fun jv wq => ∃ j : Nat, jv = .int .i64 j ∧ j ≤ k1 ∧ Hid (∃ dj : Array Nat, dj.size = N ∧ UO base g cap wq dj ∧ w.grownBy wq (some g) ∧ Sort.shiftDown ltN j dj = D1)) (fun jv _ => (intOf jv).toNat)
                    case atStart => exact ⟨k1, rfl, Nat.le_refl _, dw, HW3.out, HW1.out, HW2.out, HD2.out⟩
                    case round =>
                      clear HW1 HW2 HW3 HD2
                      obtain ⟨j, rfl, hj1, hst⟩ := hrel
                      obtain ⟨dj, e1, e2, e3, e4⟩ := hst.out
                      have HSJ := Lib.hid e1
                      have HUJ := Lib.hid e2
                      have HGJ := Lib.hid e3
                      have HEJ := Lib.hid e4
                      clear e1 e2 e3 e4 hst
                      by_cases hj0 : 1 ≤ j
                      · have hI8 : decide ((1 : Int) ≤ (j : Int)) = true := decide_eq_true (by omega)
                        obtain ⟨jj, hjj⟩ : ∃ jj, j = jj + 1 := ⟨j - 1, by omega⟩
                        have qjj : (j : Int) - 1 = (jj : Int) := by omega
                        have hjN : j < N ∧ jj < N := by omega
                        have kx := HUJ.out.cell (i := j) (by rw [HSJ.out]; omega)
                        have ky := HUJ.out.cell (i := jj) (by rw [HSJ.out]; omega)
                        have hN1 : (j : Int) < (N : Int) := by omega
                        have hN2 : (jj : Int) < (N : Int) := by omega
                        cases hl : ltN dj[j]! dj[jj]! with
                        | false =>
                          have hsd := shiftDown_stop hjj hl
                          rw [HEJ.out] at hsd
                          have HSDN := Lib.hid hsd
                          clear hsd
                          have HJJ := Lib.hid hjj
                          clear hjj
                          have HL := Lib.hid hl
                          clear hl
                          obtain ⟨x, hxv⟩ : ∃ x, dj[j]! = x := ⟨_, rfl⟩
                          obtain ⟨y, hyv⟩ : ∃ y, dj[jj]! = y := ⟨_, rfl⟩
                          rw [hxv] at kx
                          rw [hyv] at ky
                          rw [hxv, hyv] at HL
                          clear hxv hyv
                          go_upto_region 16 with fail
                          refine wp_region_facts [Fact.eq (.slice (some ⟨g, 0, none⟩) N cap),
                              Fact.eq (.int .i64 j),
                              Fact.eq (.pointer (some ⟨g, j, none⟩)),
                              Fact.eq (.int .u64 x),
                              Fact.eq (.slice (some ⟨g, 0, none⟩) N cap),
                              Fact.eq (.int .i64 j),
                              Fact.eq (.int .i64 jj),
                              Fact.eq (.pointer (some ⟨g, jj, none⟩)),
                              Fact.eq (.int .u64 y),
                              Fact.eq (.bool false),
                              Fact.eq (.bool true)]
                            [[], [], [(0, 68), (1, 69)], [(2, 70)], [], [], [(5, 73)], [(4, 72), (6, 74)], [(7, 75)], [(3, 71), (8, 76)], [(9, 77)]]
                            [(0, 68), (1, 69), (2, 70), (3, 71), (4, 72), (5, 73), (6, 74), (7, 75), (8, 76), (9, 77), (10, 78)] (by kernel_rfl) (by kernel_rfl) ?_ ?_
                          · refine ⟨?_, ?_, ?_, ?_, ?_, ?_, ?_, ?_, ?_, ?_, ?_, trivial⟩
                            · intro w1 hx1; change wpList _ _ _ _ _ _; exact ob_move rfl rfl rfl rfl rfl
                            · intro w1 hx1; change wpList _ _ _ _ _ _; exact ob_move rfl rfl rfl rfl rfl
                            · intro w1 hx1; rintro _ rfl; rintro _ rfl; change wpList _ _ _ _ _ _; go_wp2_with fail; exact ⟨rfl, Ext.refl _, rfl, rfl⟩
                            · intro w1 hx1; rintro _ rfl; change wpList _ _ _ _ _ _; have m0 := hx1.cell kx; go_wp2_with fail; exact ⟨rfl, Ext.refl _, rfl, rfl⟩
                            · intro w1 hx1; change wpList _ _ _ _ _ _; exact ob_move rfl rfl rfl rfl rfl
                            · intro w1 hx1; change wpList _ _ _ _ _ _; exact ob_move rfl rfl rfl rfl rfl
                            · intro w1 hx1; rintro _ rfl; change wpList _ _ _ _ _ _; go_wp2_with fail; exact ⟨rfl, Ext.refl _, rfl, rfl⟩
                            · intro w1 hx1; rintro _ rfl; rintro _ rfl; change wpList _ _ _ _ _ _; go_wp2_with fail; exact ⟨rfl, Ext.refl _, rfl, rfl⟩
                            · intro w1 hx1; rintro _ rfl; change wpList _ _ _ _ _ _; have m0 := hx1.cell ky; go_wp2_with fail; exact ⟨rfl, Ext.refl _, rfl, rfl⟩
                            · intro w1 hx1; rintro _ rfl; rintro _ rfl; change wpList _ _ _ _ _ _; go_wp2_with fail; refine (less_no HL.out _).mono ?_; rintro e w2 ⟨rfl, hx2⟩; go_wp2_with fail; exact ⟨rfl, hx2, rfl, rfl⟩
                            · intro w1 hx1; rintro _ rfl; change wpList _ _ _ _ _ _; go_wp2_with fail; exact ⟨rfl, Ext.refl _, rfl, rfl⟩
                          · intro w1 hx1; rintro _ rfl; rintro _ rfl; rintro _ rfl; rintro _ rfl; rintro _ rfl; rintro _ rfl; rintro _ rfl; rintro _ rfl; rintro _ rfl; rintro _ rfl; rintro _ rfl; refine depsThen_nil ?_; dsimp only; simp only [Act.put, List.setIfInBounds_toArray, List.set_cons_zero, List.set_cons_succ]
                            have HUK := Lib.hid (HUJ.out.ext hx1)
                            have HGK := Lib.hid (grown_trans HGJ.out (grown_of_ext hx1))
                            clear hx1 kx ky hN1 hN2
                            go_wp2_with fail
                            go_meet
                            exact ⟨by rw [HSDN.out]; exact HSJ.out, by rw [HSDN.out]; exact HUK.out, HGK.out⟩
                        | true =>
                          have hsd := shiftDown_go hjj hl
                          rw [HEJ.out] at hsd
                          have HSDN := Lib.hid hsd
                          clear hsd
                          have HJJ := Lib.hid hjj
                          clear hjj
                          have HL := Lib.hid hl
                          clear hl
                          obtain ⟨x, hxv⟩ : ∃ x, dj[j]! = x := ⟨_, rfl⟩
                          obtain ⟨y, hyv⟩ : ∃ y, dj[jj]! = y := ⟨_, rfl⟩
                          rw [hxv] at kx
                          rw [hyv] at ky
                          rw [hxv, hyv] at HL
                          clear hxv hyv
                          go_upto_region 16 with fail
                          refine wp_region_facts [Fact.eq (.slice (some ⟨g, 0, none⟩) N cap),
                              Fact.eq (.int .i64 j),
                              Fact.eq (.pointer (some ⟨g, j, none⟩)),
                              Fact.eq (.int .u64 x),
                              Fact.eq (.slice (some ⟨g, 0, none⟩) N cap),
                              Fact.eq (.int .i64 j),
                              Fact.eq (.int .i64 jj),
                              Fact.eq (.pointer (some ⟨g, jj, none⟩)),
                              Fact.eq (.int .u64 y),
                              Fact.eq (.bool true),
                              Fact.eq (.bool false)]
                            [[], [], [(0, 68), (1, 69)], [(2, 70)], [], [], [(5, 73)], [(4, 72), (6, 74)], [(7, 75)], [(3, 71), (8, 76)], [(9, 77)]]
                            [(0, 68), (1, 69), (2, 70), (3, 71), (4, 72), (5, 73), (6, 74), (7, 75), (8, 76), (9, 77), (10, 78)] (by kernel_rfl) (by kernel_rfl) ?_ ?_
                          · refine ⟨?_, ?_, ?_, ?_, ?_, ?_, ?_, ?_, ?_, ?_, ?_, trivial⟩
                            · intro w1 hx1; change wpList _ _ _ _ _ _; exact ob_move rfl rfl rfl rfl rfl
                            · intro w1 hx1; change wpList _ _ _ _ _ _; exact ob_move rfl rfl rfl rfl rfl
                            · intro w1 hx1; rintro _ rfl; rintro _ rfl; change wpList _ _ _ _ _ _; go_wp2_with fail; exact ⟨rfl, Ext.refl _, rfl, rfl⟩
                            · intro w1 hx1; rintro _ rfl; change wpList _ _ _ _ _ _; have m0 := hx1.cell kx; go_wp2_with fail; exact ⟨rfl, Ext.refl _, rfl, rfl⟩
                            · intro w1 hx1; change wpList _ _ _ _ _ _; exact ob_move rfl rfl rfl rfl rfl
                            · intro w1 hx1; change wpList _ _ _ _ _ _; exact ob_move rfl rfl rfl rfl rfl
                            · intro w1 hx1; rintro _ rfl; change wpList _ _ _ _ _ _; go_wp2_with fail; exact ⟨rfl, Ext.refl _, rfl, rfl⟩
                            · intro w1 hx1; rintro _ rfl; rintro _ rfl; change wpList _ _ _ _ _ _; go_wp2_with fail; exact ⟨rfl, Ext.refl _, rfl, rfl⟩
                            · intro w1 hx1; rintro _ rfl; change wpList _ _ _ _ _ _; have m0 := hx1.cell ky; go_wp2_with fail; exact ⟨rfl, Ext.refl _, rfl, rfl⟩
                            · intro w1 hx1; rintro _ rfl; rintro _ rfl; change wpList _ _ _ _ _ _; go_wp2_with fail; refine (less_yes HL.out _).mono ?_; rintro e w2 ⟨rfl, hx2⟩; go_wp2_with fail; exact ⟨rfl, hx2, rfl, rfl⟩
                            · intro w1 hx1; rintro _ rfl; change wpList _ _ _ _ _ _; go_wp2_with fail; exact ⟨rfl, Ext.refl _, rfl, rfl⟩
                          · intro w1 hx1; rintro _ rfl; rintro _ rfl; rintro _ rfl; rintro _ rfl; rintro _ rfl; rintro _ rfl; rintro _ rfl; rintro _ rfl; rintro _ rfl; rintro _ rfl; rintro _ rfl; refine depsThen_nil ?_; dsimp only; simp only [Act.put, List.setIfInBounds_toArray, List.set_cons_zero, List.set_cons_succ]
                            have HUK := Lib.hid (HUJ.out.ext hx1)
                            have HGK := Lib.hid (grown_trans HGJ.out (grown_of_ext hx1))
                            clear hx1 kx ky hN1 hN2
                            have c0 := HUK.out.cell (i := j) (by rw [HSJ.out]; omega)
                            have c1 := HUK.out.cell (i := jj) (by rw [HSJ.out]; omega)
                            have z0 := HUK.out.free j
                            have z1 := HUK.out.free jj
                            have hw := uO_swp HUK.out (i := j) (j := jj) (by rw [HSJ.out]; omega) (by rw [HSJ.out]; omega)
                            have HW := Lib.hid hw
                            clear hw
                            have b0 : (j : Int) < (N : Int) := by omega
                            have b1 : (jj : Int) < (N : Int) := by omega
                            obtain ⟨v', hy'⟩ := cell?_setCell_some (w := w1) (p := ⟨g, j, none⟩) (x := .int .u64 dj[jj]!) (q := ⟨g, jj, none⟩) c1
                            generalize dj[j]! = y0 at *
                            generalize dj[jj]! = y1 at *
                            go_upto_region 17 with fail
                            go_region
                            obtain ⟨h1, h2⟩ := HW.out
                            have HZ1 := Lib.hid (h1.ext (Ext.refl _).drew)
                            have HZ2 := Lib.hid (grown_trans (grown_trans HGK.out h2) (grown_of_ext (Ext.refl _).drew))
                            clear h1 h2 c0 c1 z0 z1 HW b0 b1 hy'
                            have HZ3 := Lib.hid ((swp_size dj j jj).trans HSJ.out)
                            generalize World.drew _ = w4 at *
                            go_wp2_with fail
                            go_roundw
                            case rel => exact ⟨jj, rfl, by have := HJJ.out; omega, _, HZ3.out, HZ1.out, HZ2.out, HSDN.out.symm⟩
                            case measure => have := HJJ.out; simp [intOf]; omega
                      · have hI8 : decide ((1 : Int) ≤ (j : Int)) = false := decide_eq_false (by omega)
                        obtain rfl : j = 0 := by omega
                        have he : dj = D1 := HEJ.out
                        have HE := Lib.hid he
                        clear he
                        go_wp2_with fail
                        go_meet
                        exact ⟨by rw [← HE.out]; exact HSJ.out, by rw [← HE.out]; exact HUJ.out, HGJ.out⟩
                  · have hI9 : decide ((2 : Int) ≤ (kd : Int)) = false := decide_eq_false (by omega)
                    have hd : dw = D1 := by have := HD1.out; rw [if_neg h2] at this; exact this
                    have HD2 := Lib.hid hd
                    clear hd HD1
                    go_wp2_with fail
                    go_meet
                    exact ⟨by rw [← HD2.out]; exact HW3.out, by rw [← HD2.out]; exact HW1.out, HW2.out⟩
                case rest =>
                  obtain ⟨r1, r2, r3⟩ := hcut
                  have HW3 := Lib.hid r1
                  have HW1 := Lib.hid r2
                  have HW2 := Lib.hid r3
                  clear r1 r2 r3 HD1
                  obtain ⟨D2, hD2⟩ : ∃ D, (if bd ≥ 2 then Sort.shiftUp ltN b (k + 1) D1 else D1) = D := ⟨_, rfl⟩
                  rw [hD2] at HKB
                  have HD2 := Lib.hid hD2
                  clear hD2
                  clear HL0
                  by_cases h2 : 2 ≤ bd
                  · have hI9 : decide ((2 : Int) ≤ (bd : Int)) = true := decide_eq_true (by omega)
                    have hd : Sort.shiftUp ltN b (k + 1) D1 = D2 := by have := HD2.out; rw [if_pos h2] at this; exact this
                    have HD3 := Lib.hid hd
                    clear hd HD2
                    go_wp2_with fail
                    go_loopw [10] (fun jv wq => ∃ j : Nat, jv = .int .i64 j ∧ 1 ≤ j ∧ j ≤ b ∧ Hid (∃ dj : Array Nat, dj.size = N ∧ UO base g cap wq dj ∧ w.grownBy wq (some g) ∧ Sort.shiftUp ltN b j dj = D2)) (fun jv _ => b - (intOf jv).toNat)
                    case atStart => exact ⟨k + 1, by go_num, by omega, by omega, D1, HW3.out, HW1.out, HW2.out, HD3.out⟩
                    case round =>
                      clear HW1 HW2 HW3 HD3
                      obtain ⟨j, rfl, hj1, hjb, hst⟩ := hrel
                      obtain ⟨dj, e1, e2, e3, e4⟩ := hst.out
                      have HSJ := Lib.hid e1
                      have HUJ := Lib.hid e2
                      have HGJ := Lib.hid e3
                      have HEJ := Lib.hid e4
                      clear e1 e2 e3 e4 hst
                      by_cases hj0 : j < b
                      · have hI8 : decide ((j : Int) < (b : Int)) = true := decide_eq_true (by omega)
                        obtain ⟨jj, hjj⟩ : ∃ jj, jj = j - 1 := ⟨_, rfl⟩
                        have qjj : (j : Int) - 1 = (jj : Int) := by omega
                        have hjN : j < N ∧ jj < N := by omega
                        have kx := HUJ.out.cell (i := j) (by rw [HSJ.out]; omega)
                        have ky := HUJ.out.cell (i := jj) (by rw [HSJ.out]; omega)
                        have hN1 : (j : Int) < (N : Int) := by omega
                        have hN2 : (jj : Int) < (N : Int) := by omega
                        cases hl : ltN dj[j]! dj[jj]! with
                        | false =>
                          have hsd := shiftUp_stop (d := dj) hj0 (by rw [← hjj]; exact hl)
                          rw [HEJ.out] at hsd
                          have HSDN := Lib.hid hsd
                          clear hsd
                          have HJJ := Lib.hid hjj
                          clear hjj
                          have HL := Lib.hid hl
                          clear hl
                          obtain ⟨x, hxv⟩ : ∃ x, dj[j]! = x := ⟨_, rfl⟩
                          obtain ⟨y, hyv⟩ : ∃ y, dj[jj]! = y := ⟨_, rfl⟩
                          rw [hxv] at kx
                          rw [hyv] at ky
                          rw [hxv, hyv] at HL
                          clear hxv hyv
                          go_upto_region 22 with fail
                          refine wp_region_facts [Fact.eq (.slice (some ⟨g, 0, none⟩) N cap),
                              Fact.eq (.int .i64 j),
                              Fact.eq (.pointer (some ⟨g, j, none⟩)),
                              Fact.eq (.int .u64 x),
                              Fact.eq (.slice (some ⟨g, 0, none⟩) N cap),
                              Fact.eq (.int .i64 j),
                              Fact.eq (.int .i64 jj),
                              Fact.eq (.pointer (some ⟨g, jj, none⟩)),
                              Fact.eq (.int .u64 y),
                              Fact.eq (.bool false),
                              Fact.eq (.bool true)]
                            [[], [], [(0, 106), (1, 107)], [(2, 108)], [], [], [(5, 111)], [(4, 110), (6, 112)], [(7, 113)], [(3, 109), (8, 114)], [(9, 115)]]
                            [(0, 106), (1, 107), (2, 108), (3, 109), (4, 110), (5, 111), (6, 112), (7, 113), (8, 114), (9, 115), (10, 116)] (by kernel_rfl) (by kernel_rfl) ?_ ?_
                          · refine ⟨?_, ?_, ?_, ?_, ?_, ?_, ?_, ?_, ?_, ?_, ?_, trivial⟩
                            · intro w1 hx1; change wpList _ _ _ _ _ _; exact ob_move rfl rfl rfl rfl rfl
                            · intro w1 hx1; change wpList _ _ _ _ _ _; exact ob_move rfl rfl rfl rfl rfl
                            · intro w1 hx1; rintro _ rfl; rintro _ rfl; change wpList _ _ _ _ _ _; go_wp2_with fail; exact ⟨rfl, Ext.refl _, rfl, rfl⟩
                            · intro w1 hx1; rintro _ rfl; change wpList _ _ _ _ _ _; have m0 := hx1.cell kx; go_wp2_with fail; exact ⟨rfl, Ext.refl _, rfl, rfl⟩
                            · intro w1 hx1; change wpList _ _ _ _ _ _; exact ob_move rfl rfl rfl rfl rfl
                            · intro w1 hx1; change wpList _ _ _ _ _ _; exact ob_move rfl rfl rfl rfl rfl
                            · intro w1 hx1; rintro _ rfl; change wpList _ _ _ _ _ _; go_wp2_with fail; exact ⟨rfl, Ext.refl _, rfl, rfl⟩
                            · intro w1 hx1; rintro _ rfl; rintro _ rfl; change wpList _ _ _ _ _ _; go_wp2_with fail; exact ⟨rfl, Ext.refl _, rfl, rfl⟩
                            · intro w1 hx1; rintro _ rfl; change wpList _ _ _ _ _ _; have m0 := hx1.cell ky; go_wp2_with fail; exact ⟨rfl, Ext.refl _, rfl, rfl⟩
                            · intro w1 hx1; rintro _ rfl; rintro _ rfl; change wpList _ _ _ _ _ _; go_wp2_with fail; refine (less_no HL.out _).mono ?_; rintro e w2 ⟨rfl, hx2⟩; go_wp2_with fail; exact ⟨rfl, hx2, rfl, rfl⟩
                            · intro w1 hx1; rintro _ rfl; change wpList _ _ _ _ _ _; go_wp2_with fail; exact ⟨rfl, Ext.refl _, rfl, rfl⟩
                          · intro w1 hx1; rintro _ rfl; rintro _ rfl; rintro _ rfl; rintro _ rfl; rintro _ rfl; rintro _ rfl; rintro _ rfl; rintro _ rfl; rintro _ rfl; rintro _ rfl; rintro _ rfl; refine depsThen_nil ?_; dsimp only; simp only [Act.put, List.setIfInBounds_toArray, List.set_cons_zero, List.set_cons_succ]
                            have HUK := Lib.hid (HUJ.out.ext hx1)
                            have HGK := Lib.hid (grown_trans HGJ.out (grown_of_ext hx1))
                            clear hx1 kx ky hN1 hN2
                            have he5 : 5 - (s + 1) = t := by have := HT.out; omega
                            have HE5 := Lib.hid he5
                            clear he5
                            go_wp2_with fail
                            go_roundw
                            case rel => exact ⟨k, s + 1, rfl, by go_num, by omega, by omega, by omega, D2, by rw [HSDN.out]; exact HSJ.out, by rw [HSDN.out]; exact HUK.out, HGK.out, by rw [HE5.out]; exact HKB.out⟩
                            case measure => simp [intOf]; omega
                        | true =>
                          have hsd := shiftUp_go (d := dj) hj0 (by rw [← hjj]; exact hl)
                          rw [HEJ.out, ← hjj] at hsd
                          have HSDN := Lib.hid hsd
                          clear hsd
                          have HJJ := Lib.hid hjj
                          clear hjj
                          have HL := Lib.hid hl
                          clear hl
                          obtain ⟨x, hxv⟩ : ∃ x, dj[j]! = x := ⟨_, rfl⟩
                          obtain ⟨y, hyv⟩ : ∃ y, dj[jj]! = y := ⟨_, rfl⟩
                          rw [hxv] at kx
                          rw [hyv] at ky
                          rw [hxv, hyv] at HL
                          clear hxv hyv
                          go_upto_region 22 with fail
                          refine wp_region_facts [Fact.eq (.slice (some ⟨g, 0, none⟩) N cap),
                              Fact.eq (.int .i64 j),
                              Fact.eq (.pointer (some ⟨g, j, none⟩)),
                              Fact.eq (.int .u64 x),
                              Fact.eq (.slice (some ⟨g, 0, none⟩) N cap),
                              Fact.eq (.int .i64 j),
                              Fact.eq (.int .i64 jj),
                              Fact.eq (.pointer (some ⟨g, jj, none⟩)),
                              Fact.eq (.int .u64 y),
                              Fact.eq (.bool true),
                              Fact.eq (.bool false)]
                            [[], [], [(0, 106), (1, 107)], [(2, 108)], [], [], [(5, 111)], [(4, 110), (6, 112)], [(7, 113)], [(3, 109), (8, 114)], [(9, 115)]]
                            [(0, 106), (1, 107), (2, 108), (3, 109), (4, 110), (5, 111), (6, 112), (7, 113), (8, 114), (9, 115), (10, 116)] (by kernel_rfl) (by kernel_rfl) ?_ ?_
                          · refine ⟨?_, ?_, ?_, ?_, ?_, ?_, ?_, ?_, ?_, ?_, ?_, trivial⟩
                            · intro w1 hx1; change wpList _ _ _ _ _ _; exact ob_move rfl rfl rfl rfl rfl
                            · intro w1 hx1; change wpList _ _ _ _ _ _; exact ob_move rfl rfl rfl rfl rfl
                            · intro w1 hx1; rintro _ rfl; rintro _ rfl; change wpList _ _ _ _ _ _; go_wp2_with fail; exact ⟨rfl, Ext.refl _, rfl, rfl⟩
                            · intro w1 hx1; rintro _ rfl; change wpList _ _ _ _ _ _; have m0 := hx1.cell kx; go_wp2_with fail; exact ⟨rfl, Ext.refl _, rfl, rfl⟩
                            · intro w1 hx1; change wpList _ _ _ _ _ _; exact ob_move rfl rfl rfl rfl rfl
                            · intro w1 hx1; change wpList _ _ _ _ _ _; exact ob_move rfl rfl rfl rfl rfl
                            · intro w1 hx1; rintro _ rfl; change wpList _ _ _ _ _ _; go_wp2_with fail; exact ⟨rfl, Ext.refl _, rfl, rfl⟩
                            · intro w1 hx1; rintro _ rfl; rintro _ rfl; change wpList _ _ _ _ _ _; go_wp2_with fail; exact ⟨rfl, Ext.refl _, rfl, rfl⟩
                            · intro w1 hx1; rintro _ rfl; change wpList _ _ _ _ _ _; have m0 := hx1.cell ky; go_wp2_with fail; exact ⟨rfl, Ext.refl _, rfl, rfl⟩
                            · intro w1 hx1; rintro _ rfl; rintro _ rfl; change wpList _ _ _ _ _ _; go_wp2_with fail; refine (less_yes HL.out _).mono ?_; rintro e w2 ⟨rfl, hx2⟩; go_wp2_with fail; exact ⟨rfl, hx2, rfl, rfl⟩
                            · intro w1 hx1; rintro _ rfl; change wpList _ _ _ _ _ _; go_wp2_with fail; exact ⟨rfl, Ext.refl _, rfl, rfl⟩
                          · intro w1 hx1; rintro _ rfl; rintro _ rfl; rintro _ rfl; rintro _ rfl; rintro _ rfl; rintro _ rfl; rintro _ rfl; rintro _ rfl; rintro _ rfl; rintro _ rfl; rintro _ rfl; refine depsThen_nil ?_; dsimp only; simp only [Act.put, List.setIfInBounds_toArray, List.set_cons_zero, List.set_cons_succ]
                            have HUK := Lib.hid (HUJ.out.ext hx1)
                            have HGK := Lib.hid (grown_trans HGJ.out (grown_of_ext hx1))
                            clear hx1 kx ky hN1 hN2
                            have c0 := HUK.out.cell (i := j) (by rw [HSJ.out]; omega)
                            have c1 := HUK.out.cell (i := jj) (by rw [HSJ.out]; omega)
                            have z0 := HUK.out.free j
                            have z1 := HUK.out.free jj
                            have hw := uO_swp HUK.out (i := j) (j := jj) (by rw [HSJ.out]; omega) (by rw [HSJ.out]; omega)
                            have HW := Lib.hid hw
                            clear hw
                            have b0 : (j : Int) < (N : Int) := by omega
                            have b1 : (jj : Int) < (N : Int) := by omega
                            obtain ⟨v', hy'⟩ := cell?_setCell_some (w := w1) (p := ⟨g, j, none⟩) (x := .int .u64 dj[jj]!) (q := ⟨g, jj, none⟩) c1
                            generalize dj[j]! = y0 at *
                            generalize dj[jj]! = y1 at *
                            go_upto_region 23 with fail
                            go_region
                            obtain ⟨h1, h2⟩ := HW.out
                            have HZ1 := Lib.hid (h1.ext (Ext.refl _).drew)
                            have HZ2 := Lib.hid (grown_trans (grown_trans HGK.out h2) (grown_of_ext (Ext.refl _).drew))
                            clear h1 h2 c0 c1 z0 z1 HW b0 b1 hy'
                            have HZ3 := Lib.hid ((swp_size dj j jj).trans HSJ.out)
                            generalize World.drew _ = w4 at *
                            go_wp2_with fail
                            go_roundw
                            case rel => exact ⟨j + 1, by go_num, by omega, by omega, _, HZ3.out, HZ1.out, HZ2.out, HSDN.out.symm⟩
                            case measure => simp [intOf]; omega
                      · have hI8 : decide ((j : Int) < (b : Int)) = false := decide_eq_false (by omega)
                        have he : dj = D2 := by have := HEJ.out; rw [shiftUp_end hj0] at this; exact this
                        have HE := Lib.hid he
                        clear he
                        have he5 : 5 - (s + 1) = t := by have := HT.out; omega
                        have HE5 := Lib.hid he5
                        clear he5
                        go_wp2_with fail
                        go_roundw
                        case rel => exact ⟨k, s + 1, rfl, by go_num, by omega, by omega, by omega, D2, by rw [← HE.out]; exact HSJ.out, by rw [← HE.out]; exact HUJ.out, HGJ.out, by rw [HE5.out]; exact HKB.out⟩
                        case measure => simp [intOf]; omega
                  · have hI9 : decide ((2 : Int) ≤ (bd : Int)) = false := decide_eq_false (by omega)
                    have hd : D1 = D2 := by have := HD2.out; rw [if_neg h2] at this; exact this
                    have HD3 := Lib.hid hd
                    clear hd HD2
                    have he5 : 5 - (s + 1) = t := by have := HT.out; omega
                    have HE5 := Lib.hid he5
                    clear he5
                    go_wp2_with fail
                    go_roundw
                    case rel => exact ⟨k, s + 1, rfl, by go_num, by omega, by omega, by omega, D2, by rw [← HD3.out]; exact HW3.out, by rw [← HD3.out]; exact HW1.out, HW2.out, by rw [HE5.out]; exact HKB.out⟩
                    case measure => simp [intOf]; omega
    · have hI0 : decide ((s : Int) < 5) = false := decide_eq_false (by omega)
      obtain rfl : s = 5 := by omega
      have hR : RES = (dk, false) := HE4.out.symm
      have HR := Lib.hid hR
      clear hR
      go_wp2_with fail
      go_ret
      exact ⟨by rw [HR.out]; rfl, by rw [HR.out]; exact ⟨HU.out, HG.out⟩⟩
end Go.Proofs.Ytlgopjfnknjgjaa