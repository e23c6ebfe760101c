/- insertionSortOrdered at uint64 (53). -/
import Derived.Test.YtlgopjfnknjgjaaU2
import Derived.Test.YtlgopjfnknjgjaaK7
import Derived.IntWalk
import Derived.RegionTactic
import Derived.ChangeAlike
namespace Go.Proofs.Ytlgopjfnknjgjaa
open Go.RowKit

theorem insInner_stop {d : Array Nat} {a j : Nat} (h : ¬ a < j ∨ (0 < j ∧ ltN d[j]! d[j - 1]! = false)) : Sort.insInner ltN a j d = d := by
  cases j with
  | zero => rfl
  | succ j =>
    unfold Sort.insInner
    rcases h with h | ⟨_, h⟩
    · rw [if_neg (by simp; omega)]
    · rw [if_neg (by simp only [Nat.add_sub_cancel] at h; simp [h])]
theorem insInner_go {d : Array Nat} {a j : Nat} (h : a < j + 1) (hl : ltN d[j + 1]! d[j]! = true) : Sort.insInner ltN a (j + 1) d = Sort.insInner ltN a j (Sort.swp d (j + 1) j) := by
  conv => lhs; unfold Sort.insInner
  rw [if_pos (by simp [hl]; omega)]
theorem insOuter_go {d : Array Nat} {a b i : Nat} (h : i < b) : Sort.insOuter ltN a b i d = Sort.insOuter ltN a b (i + 1) (Sort.insInner ltN a i d) := by
  conv => lhs; unfold Sort.insOuter
  rw [if_pos h]
theorem insOuter_end {d : Array Nat} {a b i : Nat} (h : ¬ i < b) : Sort.insOuter ltN a b i d = d := by
  unfold Sort.insOuter; rw [if_neg h]
theorem uO_swp {base g cap : Nat} {w : World} {d : Array Nat} (h : UO base g cap w d) {i j : Nat} (hi : i < d.size) (hj : j < d.size) :
    UO base g cap ((w.setCell ⟨g, i, none⟩ (.int .u64 d[j]!)).setCell ⟨g, j, none⟩ (.int .u64 d[i]!)) (Sort.swp d i j) ∧ w.grownBy ((w.setCell ⟨g, i, none⟩ (.int .u64 d[j]!)).setCell ⟨g, j, none⟩ (.int .u64 d[i]!)) (some g) := by
  obtain ⟨h1, h2⟩ := uO_set h hi d[j]!
  obtain ⟨h3, h4⟩ := uO_set h1 (i := j) (by simpa using hj) d[i]!
  exact ⟨h3, grown_trans h2 h4⟩

set_option maxRecDepth 100000 in
set_option maxHeartbeats 8000000 in
theorem insertion_any (base g cap : Nat) (d : Array Nat) (a b : Nat) (w : World) (ho : UO base g cap w d) (hab : a ≤ b) (hb : b ≤ d.size) (hsz : d.size ≤ 1000000) :
    Calls Try.prog 53 #[.slice (some ⟨g, 0, none⟩) d.size cap, .int .i64 a, .int .i64 b] w fun e w' => e = .returned (.tuple #[]) ∧ UOq base g cap w (Sort.insertionSort ltN d a b) w' := by
  have HO := Lib.hid ho
  clear ho
  generalize hN : d.size = N at *
  have HN := Lib.hid hN
  clear hN
  have hA : (a : Int) + 1 ≤ 9223372036854775807 := by omega
  go_enter Try.func53, Try.ntmps53
  go_wp2_with fail
  go_loopw [6, 7] (fun iv _ wr => ∃ i : Nat, iv = .int .i64 i ∧ a < i ∧ i ≤ b + 1 ∧ Hid (∃ dk : Array Nat, dk.size = N ∧ UO base g cap wr dk ∧ w.grownBy wr (some g) ∧ Sort.insOuter ltN a b i dk = Sort.insertionSort ltN d a b)) (fun iv _ _ => b + 1 - (intOf iv).toNat)
  case atStart => exact ⟨a + 1, by go_num, by omega, by omega, d, HN.out, HO.out, grown_refl _ _, rfl⟩
  case round =>
    clear HO
    obtain ⟨i, rfl, hai, hib, hst⟩ := hrel
    by_cases hlt : i < b
    · have hI : decide ((i : Int) < (b : Int)) = true := decide_eq_true (by omega)
      go_wp2_with fail
      obtain ⟨wo, rfl⟩ : ∃ wo : World, wo = wr := ⟨_, rfl⟩
      go_loopw [7] (fun jv wq => ∃ j : Nat, jv = .int .i64 j ∧ a ≤ j ∧ j ≤ i ∧ Hid (∃ dj : Array Nat, dj.size = N ∧ UO base g cap wq dj ∧ w.grownBy wq (some g) ∧ Sort.insOuter ltN a b (i + 1) (Sort.insInner ltN a j dj) = Sort.insertionSort ltN d a b)) (fun jv _ => (intOf jv).toNat)
      case atStart =>
        obtain ⟨dk, e1, e2, e3, e4⟩ := hst.out
        exact ⟨i, rfl, by omega, Nat.le_refl _, dk, e1, e2, e3, by rw [← insOuter_go hlt]; exact e4⟩
      case round =>
        clear hst
        obtain ⟨j, rfl, haj, hji, hsj⟩ := hrel
        obtain ⟨dj, e1, e2, e3, e4⟩ := hsj.out
        have E1 := Lib.hid e1
        have E2 := Lib.hid e2
        have E3 := Lib.hid e3
        have E4 := Lib.hid e4
        clear e1 e2 e3 e4 hsj
        by_cases hja : a < j
        · obtain ⟨jj, hje⟩ : ∃ jj, j = jj + 1 := ⟨j - 1, by omega⟩
          have hjj : (j : Int) - 1 = (jj : Int) := by omega
          have hI2 : decide ((a : Int) < (j : Int)) = true := decide_eq_true (by omega)
          have hk1 : (j : Int) < (N : Int) := by omega
          have hk0 : (jj : Int) < (N : Int) := by omega
          have c1 := E2.out.cell (i := j) (by rw [E1.out]; omega)
          have c0 := E2.out.cell (i := jj) (by rw [E1.out]; omega)
          cases hl : ltN dj[j]! dj[jj]! with
          | true =>
            have hs : Sort.insInner ltN a j dj = Sort.insInner ltN a jj (Sort.swp dj j jj) := by subst hje; exact insInner_go hja hl
            have hw := fun (W : World) (h : Ext wr W) => uO_swp (E2.out.ext h) (i := j) (j := jj) (by rw [E1.out]; omega) (by rw [E1.out]; omega)
            have HJ := Lib.hid hje
            have HL := Lib.hid hl
            have HS := Lib.hid hs
            have HW := Lib.hid hw
            clear hl hs hw hje
            generalize dj[j]! = x1 at *
            generalize dj[jj]! = x0 at *
            go_upto_region 4 with fail
            refine wp_region_facts [Fact.eq (.int .i64 j),
                Fact.eq (.int .i64 a),
                Fact.eq (.bool true),
                Fact.eq (.bool true),
                Fact.eq (.slice (some ⟨g, 0, none⟩) N cap),
                Fact.eq (.int .i64 j),
                Fact.eq (.pointer (some ⟨g, j, none⟩)),
                Fact.eq (.int .u64 x1),
                Fact.eq (.slice (some ⟨g, 0, none⟩) N cap),
                Fact.eq (.int .i64 j),
                Fact.eq (.int .i64 jj),
                Fact.eq (.pointer (some ⟨g, jj, none⟩)),
                Fact.eq (.int .u64 x0),
                Fact.eq (.bool true),
                Fact.eq (.bool true)]
              [[], [], [(0, 16), (1, 17)], [(2, 18)], [(3, 19)], [(3, 19)], [(4, 20), (5, 21), (3, 19)], [(6, 22), (3, 19)], [(3, 19)], [(3, 19)], [(9, 25), (3, 19)], [(8, 24), (10, 26), (3, 19)], [(11, 27), (3, 19)], [(7, 23), (12, 28), (3, 19)], [(3, 19), (13, 29)]]
              [(0, 16), (1, 17), (2, 18), (3, 19), (4, 20), (5, 21), (6, 22), (7, 23), (8, 24), (9, 25), (10, 26), (11, 27), (12, 28), (13, 29), (14, 30)] (by kernel_rfl) (by kernel_rfl) ?_ ?_
            · refine ⟨?_, ?_, ?_, ?_, ?_, ?_, ?_, ?_, ?_, ?_, ?_, ?_, ?_, ?_, ?_, trivial⟩
              · intro w1 hx1; change wpList _ _ _ _ _ _; exact ob_move rfl rfl rfl rfl rfl
              · intro w1 hx1; change wpList _ _ _ _ _ _; exact ob_move rfl rfl rfl rfl rfl
              · intro w1 hx1; rintro _ rfl; rintro _ rfl; change wpList _ _ _ _ _ _; go_wp2_with fail; exact ⟨rfl, Ext.refl _, rfl, rfl⟩
              · intro w1 hx1; rintro _ rfl; change wpList _ _ _ _ _ _; exact ob_move rfl rfl rfl rfl rfl
              · intro w1 hx1; rintro _ rfl; change wpList _ _ _ _ _ _; exact ob_move rfl rfl rfl rfl rfl
              · intro w1 hx1; rintro _ rfl; change wpList _ _ _ _ _ _; exact ob_move rfl rfl rfl rfl rfl
              · intro w1 hx1; rintro _ rfl; rintro _ rfl; rintro _ rfl; change wpList _ _ _ _ _ _; go_wp2_with fail; exact ⟨rfl, Ext.refl _, rfl, rfl⟩
              · intro w1 hx1; rintro _ rfl; rintro _ rfl; change wpList _ _ _ _ _ _; have m0 := hx1.cell c1; go_wp2_with fail; exact ⟨rfl, Ext.refl _, rfl, rfl⟩
              · intro w1 hx1; rintro _ rfl; change wpList _ _ _ _ _ _; exact ob_move rfl rfl rfl rfl rfl
              · intro w1 hx1; rintro _ rfl; change wpList _ _ _ _ _ _; exact ob_move rfl rfl rfl rfl rfl
              · intro w1 hx1; rintro _ rfl; rintro _ rfl; change wpList _ _ _ _ _ _; go_wp2_with fail; exact ⟨rfl, Ext.refl _, rfl, rfl⟩
              · intro w1 hx1; rintro _ rfl; rintro _ rfl; rintro _ rfl; change wpList _ _ _ _ _ _; go_wp2_with fail; exact ⟨rfl, Ext.refl _, rfl, rfl⟩
              · intro w1 hx1; rintro _ rfl; rintro _ rfl; change wpList _ _ _ _ _ _; have m0 := hx1.cell c0; go_wp2_with fail; exact ⟨rfl, Ext.refl _, rfl, rfl⟩
              · intro w1 hx1; rintro _ rfl; rintro _ rfl; rintro _ rfl; change wpList _ _ _ _ _ _; go_wp2_with fail; refine (less_yes HL.out _).mono ?_; rintro e w2 ⟨rfl, hx2⟩; go_wp2_with fail; exact ⟨rfl, hx2, rfl, rfl⟩
              · intro w1 hx1; rintro _ rfl; rintro _ rfl; change wpList _ _ _ _ _ _; exact ob_pick rfl rfl rfl rfl rfl rfl
            · intro w1 hx1; rintro _ rfl; rintro _ rfl; rintro _ rfl; rintro _ rfl; rintro _ rfl; rintro _ rfl; rintro _ rfl; rintro _ rfl; rintro _ rfl; rintro _ rfl; rintro _ rfl; rintro _ rfl; rintro _ rfl; rintro _ rfl; rintro _ rfl; refine depsThen_nil ?_; dsimp only; simp only [Act.put, List.setIfInBounds_toArray, List.set_cons_zero, List.set_cons_succ]
              have b1 := hx1.cell c1
              have b0 := hx1.cell c0
              have z1 := (E2.out.ext hx1).free j
              have z0 := (E2.out.ext hx1).free jj
              have HX1 := Lib.hid hx1
              clear hx1 c0 c1 hI2
              go_upto_region 6 with fail
              go_region
              obtain ⟨h1, h2⟩ := HW.out _ HX1.out
              have H1 := Lib.hid (h1.ext (Ext.refl _).drew)
              have H2 := Lib.hid (grown_trans (grown_trans (grown_trans E3.out (grown_of_ext HX1.out)) h2) (grown_of_ext (Ext.refl _).drew))
              clear h1 h2 b1 b0 z1 z0
              generalize World.drew _ = wn at *
              go_wp2_with fail
              go_roundw
              case rel => exact ⟨jj, rfl, by have := HJ.out; omega, by have := HJ.out; omega, _, (swp_size _ _ _).trans E1.out, H1.out, H2.out, by rw [← HS.out]; exact E4.out⟩
              case measure => have := HJ.out; simp [intOf]; omega
          | false =>
            have hs : Sort.insInner ltN a j dj = dj := insInner_stop (.inr ⟨by omega, by rw [hje]; rw [hje] at hl; exact hl⟩)
            have HL := Lib.hid hl
            have HS := Lib.hid hs
            clear hl hs hje
            generalize dj[j]! = x1 at *
            generalize dj[jj]! = x0 at *
            go_upto_region 4 with fail
            refine wp_region_facts [Fact.eq (.int .i64 j),
                Fact.eq (.int .i64 a),
                Fact.eq (.bool true),
                Fact.eq (.bool true),
                Fact.eq (.slice (some ⟨g, 0, none⟩) N cap),
                Fact.eq (.int .i64 j),
                Fact.eq (.pointer (some ⟨g, j, none⟩)),
                Fact.eq (.int .u64 x1),
                Fact.eq (.slice (some ⟨g, 0, none⟩) N cap),
                Fact.eq (.int .i64 j),
                Fact.eq (.int .i64 jj),
                Fact.eq (.pointer (some ⟨g, jj, none⟩)),
                Fact.eq (.int .u64 x0),
                Fact.eq (.bool false),
                Fact.eq (.bool false)]
              [[], [], [(0, 16), (1, 17)], [(2, 18)], [(3, 19)], [(3, 19)], [(4, 20), (5, 21), (3, 19)], [(6, 22), (3, 19)], [(3, 19)], [(3, 19)], [(9, 25), (3, 19)], [(8, 24), (10, 26), (3, 19)], [(11, 27), (3, 19)], [(7, 23), (12, 28), (3, 19)], [(3, 19), (13, 29)]]
              [(0, 16), (1, 17), (2, 18), (3, 19), (4, 20), (5, 21), (6, 22), (7, 23), (8, 24), (9, 25), (10, 26), (11, 27), (12, 28), (13, 29), (14, 30)] (by kernel_rfl) (by kernel_rfl) ?_ ?_
            · refine ⟨?_, ?_, ?_, ?_, ?_, ?_, ?_, ?_, ?_, ?_, ?_, ?_, ?_, ?_, ?_, trivial⟩
              · intro w1 hx1; change wpList _ _ _ _ _ _; exact ob_move rfl rfl rfl rfl rfl
              · intro w1 hx1; change wpList _ _ _ _ _ _; exact ob_move rfl rfl rfl rfl rfl
              · intro w1 hx1; rintro _ rfl; rintro _ rfl; change wpList _ _ _ _ _ _; go_wp2_with fail; exact ⟨rfl, Ext.refl _, rfl, rfl⟩
              · intro w1 hx1; rintro _ rfl; change wpList _ _ _ _ _ _; exact ob_move rfl rfl rfl rfl rfl
              · intro w1 hx1; rintro _ rfl; change wpList _ _ _ _ _ _; exact ob_move rfl rfl rfl rfl rfl
              · intro w1 hx1; rintro _ rfl; change wpList _ _ _ _ _ _; exact ob_move rfl rfl rfl rfl rfl
              · intro w1 hx1; rintro _ rfl; rintro _ rfl; rintro _ rfl; change wpList _ _ _ _ _ _; go_wp2_with fail; exact ⟨rfl, Ext.refl _, rfl, rfl⟩
              · intro w1 hx1; rintro _ rfl; rintro _ rfl; change wpList _ _ _ _ _ _; have m0 := hx1.cell c1; go_wp2_with fail; exact ⟨rfl, Ext.refl _, rfl, rfl⟩
              · intro w1 hx1; rintro _ rfl; change wpList _ _ _ _ _ _; exact ob_move rfl rfl rfl rfl rfl
              · intro w1 hx1; rintro _ rfl; change wpList _ _ _ _ _ _; exact ob_move rfl rfl rfl rfl rfl
              · intro w1 hx1; rintro _ rfl; rintro _ rfl; change wpList _ _ _ _ _ _; go_wp2_with fail; exact ⟨rfl, Ext.refl _, rfl, rfl⟩
              · intro w1 hx1; rintro _ rfl; rintro _ rfl; rintro _ rfl; change wpList _ _ _ _ _ _; go_wp2_with fail; exact ⟨rfl, Ext.refl _, rfl, rfl⟩
              · intro w1 hx1; rintro _ rfl; rintro _ rfl; change wpList _ _ _ _ _ _; have m0 := hx1.cell c0; go_wp2_with fail; exact ⟨rfl, Ext.refl _, rfl, rfl⟩
              · intro w1 hx1; rintro _ rfl; rintro _ rfl; rintro _ rfl; change wpList _ _ _ _ _ _; go_wp2_with fail; refine (less_no HL.out _).mono ?_; rintro e w2 ⟨rfl, hx2⟩; go_wp2_with fail; exact ⟨rfl, hx2, rfl, rfl⟩
              · intro w1 hx1; rintro _ rfl; rintro _ rfl; change wpList _ _ _ _ _ _; exact ob_pick rfl rfl rfl rfl rfl rfl
            · intro w1 hx1; rintro _ rfl; rintro _ rfl; rintro _ rfl; rintro _ rfl; rintro _ rfl; rintro _ rfl; rintro _ rfl; rintro _ rfl; rintro _ rfl; rintro _ rfl; rintro _ rfl; rintro _ rfl; rintro _ rfl; rintro _ rfl; rintro _ rfl; refine depsThen_nil ?_; dsimp only; simp only [Act.put, List.setIfInBounds_toArray, List.set_cons_zero, List.set_cons_succ]
              have H1 := Lib.hid (E2.out.ext hx1)
              have H2 := Lib.hid (grown_trans E3.out (grown_of_ext hx1))
              clear hx1 c0 c1 hI2
              go_wp2_with fail
              go_roundw
              case rel => exact ⟨i + 1, by go_num, by omega, by omega, dj, E1.out, H1.out, H2.out, by have := E4.out; rw [HS.out] at this; exact this⟩
              case measure => simp [intOf]; omega
        · have hs : Sort.insInner ltN a j dj = dj := insInner_stop (.inl hja)
          have HS := Lib.hid hs
          have hI2 : decide ((a : Int) < (j : Int)) = false := decide_eq_false (by omega)
          clear hs
          go_upto_region 4 with fail
          refine wp_region_facts [Fact.eq (.int .i64 j),
              Fact.eq (.int .i64 a),
              Fact.eq (.bool false),
              Fact.eq (.bool false),
              Fact.eq undef,
              Fact.eq undef,
              Fact.eq undef,
              Fact.eq undef,
              Fact.eq undef,
              Fact.eq undef,
              Fact.eq undef,
              Fact.eq undef,
              Fact.eq undef,
              Fact.eq undef,
              Fact.eq (.bool false)]
            [[], [], [(0, 16), (1, 17)], [(2, 18)], [(3, 19)], [(3, 19)], [(4, 20), (5, 21), (3, 19)], [(6, 22), (3, 19)], [(3, 19)], [(3, 19)], [(9, 25), (3, 19)], [(8, 24), (10, 26), (3, 19)], [(11, 27), (3, 19)], [(7, 23), (12, 28), (3, 19)], [(3, 19), (13, 29)]]
            [(0, 16), (1, 17), (2, 18), (3, 19), (4, 20), (5, 21), (6, 22), (7, 23), (8, 24), (9, 25), (10, 26), (11, 27), (12, 28), (13, 29), (14, 30)] (by kernel_rfl) (by kernel_rfl) ?_ ?_
          · refine ⟨?_, ?_, ?_, ?_, ?_, ?_, ?_, ?_, ?_, ?_, ?_, ?_, ?_, ?_, ?_, trivial⟩
            · intro w1 hx1; change wpList _ _ _ _ _ _; exact ob_move rfl rfl rfl rfl rfl
            · intro w1 hx1; change wpList _ _ _ _ _ _; exact ob_move rfl rfl rfl rfl rfl
            · intro w1 hx1; rintro _ rfl; rintro _ rfl; change wpList _ _ _ _ _ _; go_wp2_with fail; exact ⟨rfl, Ext.refl _, rfl, rfl⟩
            · intro w1 hx1; rintro _ rfl; change wpList _ _ _ _ _ _; exact ob_move rfl rfl rfl rfl rfl
            · intro w1 hx1; rintro _ rfl; change wpList _ _ _ _ _ _; exact ob_skip rfl rfl rfl rfl
            · intro w1 hx1; rintro _ rfl; change wpList _ _ _ _ _ _; exact ob_skip rfl rfl rfl rfl
            · intro w1 hx1; rintro _ rfl; rintro _ rfl; rintro _ rfl; change wpList _ _ _ _ _ _; exact ob_skip rfl rfl rfl rfl
            · intro w1 hx1; rintro _ rfl; rintro _ rfl; change wpList _ _ _ _ _ _; exact ob_skip rfl rfl rfl rfl
            · intro w1 hx1; rintro _ rfl; change wpList _ _ _ _ _ _; exact ob_skip rfl rfl rfl rfl
            · intro w1 hx1; rintro _ rfl; change wpList _ _ _ _ _ _; exact ob_skip rfl rfl rfl rfl
            · intro w1 hx1; rintro _ rfl; rintro _ rfl; change wpList _ _ _ _ _ _; exact ob_skip rfl rfl rfl rfl
            · intro w1 hx1; rintro _ rfl; rintro _ rfl; rintro _ rfl; change wpList _ _ _ _ _ _; exact ob_skip rfl rfl rfl rfl
            · intro w1 hx1; rintro _ rfl; rintro _ rfl; change wpList _ _ _ _ _ _; exact ob_skip rfl rfl rfl rfl
            · intro w1 hx1; rintro _ rfl; rintro _ rfl; rintro _ rfl; change wpList _ _ _ _ _ _; exact ob_skip rfl rfl rfl rfl
            · intro w1 hx1; rintro _ rfl; rintro _ rfl; change wpList _ _ _ _ _ _; exact ob_pick rfl rfl rfl rfl rfl rfl
          · intro w1 hx1; rintro _ rfl; rintro _ rfl; rintro _ rfl; rintro _ rfl; rintro _ rfl; rintro _ rfl; rintro _ rfl; rintro _ rfl; rintro _ rfl; rintro _ rfl; rintro _ rfl; rintro _ rfl; rintro _ rfl; rintro _ rfl; rintro _ rfl; refine depsThen_nil ?_; dsimp only; simp only [Act.put, List.setIfInBounds_toArray, List.set_cons_zero, List.set_cons_succ]
            have H1 := Lib.hid (E2.out.ext hx1)
            have H2 := Lib.hid (grown_trans E3.out (grown_of_ext hx1))
            clear hx1 hI2
            go_wp2_with fail
            go_roundw
            case rel => exact ⟨i + 1, by go_num, by omega, by omega, dj, E1.out, H1.out, H2.out, by have := E4.out; rw [HS.out] at this; exact this⟩
            case measure => simp [intOf]; omega
    · have hI : decide ((i : Int) < (b : Int)) = false := decide_eq_false (by omega)
      go_wp2_with fail
      go_end0
      obtain ⟨dk, e1, e2, e3, e4⟩ := hst.out
      rw [insOuter_end hlt] at e4
      exact ⟨rfl, by rw [← e4]; exact e2, e3⟩
end Go.Proofs.Ytlgopjfnknjgjaa
