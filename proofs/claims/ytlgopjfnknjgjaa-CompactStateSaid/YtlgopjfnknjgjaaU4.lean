/- siftDownOrdered at uint64 (72). -/
import Derived.Test.YtlgopjfnknjgjaaU3
namespace Go.Proofs.Ytlgopjfnknjgjaa
open Go.RowKit

def childF (d : Array Nat) (hi first root : Nat) : Nat := if 2 * root + 2 < hi ∧ ltN d[first + (2 * root + 1)]! d[first + (2 * root + 2)]! = true then 2 * root + 2 else 2 * root + 1
theorem sift_stop {d : Array Nat} {hi first root : Nat} (h : ¬ 2 * root + 1 < hi) : Sort.siftDown ltN hi first root d = d := by
  unfold Sort.siftDown; rw [dif_pos (by omega)]
theorem sift_no {d : Array Nat} {hi first root c : Nat} (h : 2 * root + 1 < hi) (hc : childF d hi first root = c) (hl : ltN d[first + root]! d[first + c]! = false) : Sort.siftDown ltN hi first root d = d := by
  subst hc
  unfold childF at hl
  unfold Sort.siftDown
  rw [dif_neg (by omega)]
  by_cases h2 : 2 * root + 2 < hi ∧ ltN d[first + (2 * root + 1)]! d[first + (2 * root + 2)]! = true
  · rw [if_pos h2] at hl
    rw [if_pos (by simp only [Bool.and_eq_true, decide_eq_true_eq]; exact h2), if_pos (by rw [hl]; rfl)]
  · rw [if_neg h2] at hl
    rw [if_neg (by simp only [Bool.and_eq_true, decide_eq_true_eq]; exact h2), if_pos (by rw [hl]; rfl)]
theorem sift_go {d : Array Nat} {hi first root c : Nat} (h : 2 * root + 1 < hi) (hc : childF d hi first root = c) (hl : ltN d[first + root]! d[first + c]! = true) : Sort.siftDown ltN hi first root d = Sort.siftDown ltN hi first c (Sort.swp d (first + root) (first + c)) := by
  subst hc
  unfold childF at hl ⊢
  conv => lhs; unfold Sort.siftDown
  rw [dif_neg (by omega)]
  by_cases h2 : 2 * root + 2 < hi ∧ ltN d[first + (2 * root + 1)]! d[first + (2 * root + 2)]! = true
  · rw [if_pos h2] at hl
    rw [if_pos (by simp only [Bool.and_eq_true, decide_eq_true_eq]; exact h2), if_neg (by rw [hl]; simp), dif_pos h2.1, if_pos h2]
  · rw [if_neg h2] at hl
    rw [if_neg (by simp only [Bool.and_eq_true, decide_eq_true_eq]; exact h2), if_neg (by rw [hl]; simp), if_neg h2]

set_option maxRecDepth 100000 in
set_option maxHeartbeats 16000000 in
theorem sift_any (base g cap : Nat) (d : Array Nat) (root hi first : Nat) (w : World) (ho : UO base g cap w d) (hr : root ≤ 1000000) (hb : first + hi ≤ d.size) (hsz : d.size ≤ 1000000) :
    Calls Try.prog 72 #[.slice (some ⟨g, 0, none⟩) d.size cap, .int .i64 root, .int .i64 hi, .int .i64 first] w fun e w' => e = .returned (.tuple #[]) ∧ UOq base g cap w (Sort.siftDown ltN hi first root d) w' := by
  have HO := Lib.hid ho
  clear ho
  generalize hN : d.size = N at *
  have HN := Lib.hid hN
  clear hN
  go_enter Try.func72, Try.ntmps72
  go_wp2_with fail
  go_loopw [8, 9] (fun rv _ wr => ∃ r : Nat, rv = .int .i64 r ∧ r ≤ 1000000 ∧ (r = root ∨ r < hi) ∧ Hid (∃ dk : Array Nat, dk.size = N ∧ UO base g cap wr dk ∧ w.grownBy wr (some g) ∧ Sort.siftDown ltN hi first r dk = Sort.siftDown ltN hi first root d)) (fun rv _ _ => 2000000 - (intOf rv).toNat)
  case atStart => exact ⟨root, rfl, hr, .inl rfl, d, HN.out, HO.out, grown_refl _ _, rfl⟩
  case round =>
    clear HO
    obtain ⟨r, rfl, hr1, hr2, hst⟩ := hrel
    obtain ⟨dk, e1, e2, e3, e4⟩ := hst.out
    have E1 := Lib.hid e1
    have E2 := Lib.hid e2
    have E3 := Lib.hid e3
    have E4 := Lib.hid e4
    clear e1 e2 e3 e4 hst
    have HR2 := Lib.hid hr2
    clear hr2
    obtain ⟨c1, hc1⟩ : ∃ c1, c1 = 2 * r + 1 := ⟨_, rfl⟩
    have q1 : 2 * (r : Int) + 1 = (c1 : Int) := by omega
    have HC1 := Lib.hid hc1
    by_cases h1 : c1 < hi
    · have hI : decide ((hi : Int) ≤ (c1 : Int)) = false := decide_eq_false (by omega)
      obtain ⟨c2, hc2⟩ : ∃ c2, c2 = 2 * r + 2 := ⟨_, rfl⟩
      obtain ⟨p0, hp0⟩ : ∃ p, p = first + r := ⟨_, rfl⟩
      obtain ⟨p1, hp1⟩ : ∃ p, p = first + c1 := ⟨_, rfl⟩
      obtain ⟨p2, hp2⟩ : ∃ p, p = first + c2 := ⟨_, rfl⟩
      have q2 : (c1 : Int) + 1 = (c2 : Int) := by omega
      have q3 : (first : Int) + (r : Int) = (p0 : Int) := by omega
      have q4 : (first : Int) + (c1 : Int) = (p1 : Int) := by omega
      have q5 : (p1 : Int) + 1 = (p2 : Int) := by omega
      have q6 : (first : Int) + (c2 : Int) = (p2 : Int) := by omega
      have b0 : (p0 : Int) < (N : Int) := by omega
      have b1 : (p1 : Int) < (N : Int) := by omega
      have m0 : p0 < dk.size := by rw [E1.out]; omega
      have m1 : p1 < dk.size := by rw [E1.out]; omega
      have k0 := E2.out.cell m0
      have k1 := E2.out.cell m1
      have HC2 := Lib.hid hc2
      have HP0 := Lib.hid hp0
      have HP1 := Lib.hid hp1
      have HP2 := Lib.hid hp2
      have M0 := Lib.hid m0
      have M1 := Lib.hid m1
      clear m0 m1
      have hbd : c2 ≤ 1000001 := by omega
      have hbe : p2 ≤ 2000001 := by omega
      clear hc1 hc2 hp0 hp1 hp2
      go_upto_region 3 with fail

      by_cases h2 : c2 < hi
      · have hI2 : decide ((c2 : Int) < (hi : Int)) = true := decide_eq_true (by omega)
        have b2 : (p2 : Int) < (N : Int) := by have := HP2.out; have := HC2.out; have := HC1.out; omega
        have m2 : p2 < dk.size := by rw [E1.out]; omega
        have k2 := E2.out.cell m2
        have M2 := Lib.hid m2
        clear m2
        cases hl : ltN dk[p1]! dk[p2]! with
        | true =>
          have hch : childF dk hi first r = c2 := by
            unfold childF; rw [← HC1.out, ← HC2.out, ← HP1.out, ← HP2.out, hl]; rw [if_pos ⟨h2, rfl⟩]
          have HCH := Lib.hid hch
          have HL := Lib.hid hl
          clear hch hl
          obtain ⟨x1, hx1v⟩ : ∃ x, dk[p1]! = x := ⟨_, rfl⟩
          obtain ⟨x2, hx2v⟩ : ∃ x, dk[p2]! = x := ⟨_, rfl⟩
          rw [hx1v, hx2v] at HL
          rw [hx1v] at k1
          rw [hx2v] at k2
          have X1 := Lib.hid hx1v
          have X2 := Lib.hid hx2v
          clear hx1v hx2v
          refine wp_region_facts [Fact.eq (.int .i64 c1),
              Fact.eq (.int .i64 c2),
              Fact.eq (.int .i64 hi),
              Fact.eq (.bool true),
              Fact.eq (.bool true),
              Fact.eq (.slice (some ⟨g, 0, none⟩) N cap),
              Fact.eq (.int .i64 first),
              Fact.eq (.int .i64 c1),
              Fact.eq (.int .i64 p1),
              Fact.eq (.pointer (some ⟨g, p1, none⟩)),
              Fact.eq (.int .u64 x1),
              Fact.eq (.slice (some ⟨g, 0, none⟩) N cap),
              Fact.eq (.int .i64 first),
              Fact.eq (.int .i64 c1),
              Fact.eq (.int .i64 p1),
              Fact.eq (.int .i64 p2),
              Fact.eq (.pointer (some ⟨g, p2, none⟩)),
              Fact.eq (.int .u64 x2),
              Fact.eq (.bool true),
              Fact.eq (.bool true)]
            [[], [(0, 17)], [], [(1, 18), (2, 19)], [(3, 20)], [(4, 21)], [(4, 21)], [(4, 21)], [(6, 23), (7, 24), (4, 21)], [(5, 22), (8, 25), (4, 21)], [(9, 26), (4, 21)], [(4, 21)], [(4, 21)], [(4, 21)], [(12, 29), (13, 30), (4, 21)], [(14, 31), (4, 21)], [(11, 28), (15, 32), (4, 21)], [(16, 33), (4, 21)], [(10, 27), (17, 34), (4, 21)], [(4, 21), (18, 35)]]
            [(0, 17), (1, 18), (2, 19), (3, 20), (4, 21), (5, 22), (6, 23), (7, 24), (8, 25), (9, 26), (10, 27), (11, 28), (12, 29), (13, 30), (14, 31), (15, 32), (16, 33), (17, 34), (18, 35), (19, 36)] (by kernel_rfl) (by kernel_rfl) ?_ ?_
          · refine ⟨?_, ?_, ?_, ?_, ?_, ?_, ?_, ?_, ?_, ?_, ?_, ?_, ?_, ?_, ?_, ?_, ?_, ?_, ?_, ?_, trivial⟩
            · intro w1 hx1; change wpList _ _ _ _ _ _; exact ob_move rfl rfl rfl rfl rfl
            · intro w1 hx1; rintro _ rfl; change wpList _ _ _ _ _ _; go_wp2_with fail; exact ⟨rfl, Ext.refl _, rfl, rfl⟩
            · intro w1 hx1; change wpList _ _ _ _ _ _; exact ob_move rfl rfl rfl rfl rfl
            · intro w1 hx1; rintro _ rfl; rintro _ rfl; change wpList _ _ _ _ _ _; go_wp2_with fail; exact ⟨rfl, Ext.refl _, rfl, rfl⟩
            · intro w1 hx1; rintro _ rfl; change wpList _ _ _ _ _ _; exact ob_move rfl rfl rfl rfl rfl
            · intro w1 hx1; rintro _ rfl; change wpList _ _ _ _ _ _; exact ob_move rfl rfl rfl rfl rfl
            · intro w1 hx1; rintro _ rfl; change wpList _ _ _ _ _ _; exact ob_move rfl rfl rfl rfl rfl
            · intro w1 hx1; rintro _ rfl; change wpList _ _ _ _ _ _; exact ob_move rfl rfl rfl rfl rfl
            · intro w1 hx1; rintro _ rfl; rintro _ rfl; rintro _ rfl; change wpList _ _ _ _ _ _; go_wp2_with fail; exact ⟨rfl, Ext.refl _, rfl, rfl⟩
            · intro w1 hx1; rintro _ rfl; rintro _ rfl; rintro _ rfl; change wpList _ _ _ _ _ _; go_wp2_with fail; exact ⟨rfl, Ext.refl _, rfl, rfl⟩
            · intro w1 hx1; rintro _ rfl; rintro _ rfl; change wpList _ _ _ _ _ _; have m0 := hx1.cell k1; go_wp2_with fail; exact ⟨rfl, Ext.refl _, rfl, rfl⟩
            · intro w1 hx1; rintro _ rfl; change wpList _ _ _ _ _ _; exact ob_move rfl rfl rfl rfl rfl
            · intro w1 hx1; rintro _ rfl; change wpList _ _ _ _ _ _; exact ob_move rfl rfl rfl rfl rfl
            · intro w1 hx1; rintro _ rfl; change wpList _ _ _ _ _ _; exact ob_move rfl rfl rfl rfl rfl
            · intro w1 hx1; rintro _ rfl; rintro _ rfl; rintro _ rfl; change wpList _ _ _ _ _ _; go_wp2_with fail; exact ⟨rfl, Ext.refl _, rfl, rfl⟩
            · intro w1 hx1; rintro _ rfl; rintro _ rfl; change wpList _ _ _ _ _ _; go_wp2_with fail; exact ⟨rfl, Ext.refl _, rfl, rfl⟩
            · intro w1 hx1; rintro _ rfl; rintro _ rfl; rintro _ rfl; change wpList _ _ _ _ _ _; go_wp2_with fail; exact ⟨rfl, Ext.refl _, rfl, rfl⟩
            · intro w1 hx1; rintro _ rfl; rintro _ rfl; change wpList _ _ _ _ _ _; have m0 := hx1.cell k2; go_wp2_with fail; exact ⟨rfl, Ext.refl _, rfl, rfl⟩
            · intro w1 hx1; rintro _ rfl; rintro _ rfl; rintro _ rfl; change wpList _ _ _ _ _ _; go_wp2_with fail; refine (less_yes HL.out _).mono ?_; rintro e w2 ⟨rfl, hx2⟩; go_wp2_with fail; exact ⟨rfl, hx2, rfl, rfl⟩
            · intro w1 hx1; rintro _ rfl; rintro _ rfl; change wpList _ _ _ _ _ _; exact ob_pick rfl rfl rfl rfl rfl rfl
          · intro w1 hx1; rintro _ rfl; rintro _ rfl; rintro _ rfl; rintro _ rfl; rintro _ rfl; rintro _ rfl; rintro _ rfl; rintro _ rfl; rintro _ rfl; rintro _ rfl; rintro _ rfl; rintro _ rfl; rintro _ rfl; rintro _ rfl; rintro _ rfl; rintro _ rfl; rintro _ rfl; rintro _ rfl; rintro _ rfl; rintro _ rfl; refine depsThen_nil ?_; dsimp only; simp only [Act.put, List.setIfInBounds_toArray, List.set_cons_zero, List.set_cons_succ]
            rw [← X2.out] at k2
            have j0 := hx1.cell k0
            have jc := hx1.cell k2
            have HX := Lib.hid hx1
            clear hx1 k0 k1 k2
            cases hl2 : ltN dk[p0]! dk[p2]! with
            | false =>
              have HL2 := Lib.hid hl2
              clear hl2
              generalize hv0 : dk[p0]! = y0 at *
              generalize hvc : dk[p2]! = yc at *
              have V0 := Lib.hid hv0
              have VC := Lib.hid hvc
              clear hv0 hvc
              go_upto_region 5 with fail
              refine wp_region_facts [Fact.eq (.slice (some ⟨g, 0, none⟩) N cap),
                  Fact.eq (.int .i64 first),
                  Fact.eq (.int .i64 r),
                  Fact.eq (.int .i64 p0),
                  Fact.eq (.pointer (some ⟨g, p0, none⟩)),
                  Fact.eq (.int .u64 y0),
                  Fact.eq (.slice (some ⟨g, 0, none⟩) N cap),
                  Fact.eq (.int .i64 first),
                  Fact.eq (.int .i64 c2),
                  Fact.eq (.int .i64 p2),
                  Fact.eq (.pointer (some ⟨g, p2, none⟩)),
                  Fact.eq (.int .u64 yc),
                  Fact.eq (.bool false),
                  Fact.eq (.bool true)]
                [[], [], [], [(1, 40), (2, 41)], [(0, 39), (3, 42)], [(4, 43)], [], [], [], [(7, 46), (8, 47)], [(6, 45), (9, 48)], [(10, 49)], [(5, 44), (11, 50)], [(12, 51)]]
                [(0, 39), (1, 40), (2, 41), (3, 42), (4, 43), (5, 44), (6, 45), (7, 46), (8, 47), (9, 48), (10, 49), (11, 50), (12, 51), (13, 52)] (by kernel_rfl) (by kernel_rfl) ?_ ?_
              · refine ⟨?_, ?_, ?_, ?_, ?_, ?_, ?_, ?_, ?_, ?_, ?_, ?_, ?_, ?_, trivial⟩
                · intro w1 hx1; change wpList _ _ _ _ _ _; exact ob_move rfl rfl rfl rfl rfl
                · intro w1 hx1; change wpList _ _ _ _ _ _; exact ob_move rfl rfl rfl rfl rfl
                · intro w1 hx1; change wpList _ _ _ _ _ _; exact ob_move rfl rfl rfl rfl rfl
                · intro w1 hx1; rintro _ rfl; rintro _ rfl; change wpList _ _ _ _ _ _; go_wp2_with fail; exact ⟨rfl, Ext.refl _, rfl, rfl⟩
                · intro w1 hx1; rintro _ rfl; rintro _ rfl; change wpList _ _ _ _ _ _; go_wp2_with fail; exact ⟨rfl, Ext.refl _, rfl, rfl⟩
                · intro w1 hx1; rintro _ rfl; change wpList _ _ _ _ _ _; have m0 := hx1.cell j0; go_wp2_with fail; exact ⟨rfl, Ext.refl _, rfl, rfl⟩
                · intro w1 hx1; change wpList _ _ _ _ _ _; exact ob_move rfl rfl rfl rfl rfl
                · intro w1 hx1; change wpList _ _ _ _ _ _; exact ob_move rfl rfl rfl rfl rfl
                · intro w1 hx1; change wpList _ _ _ _ _ _; exact ob_move rfl rfl rfl rfl rfl
                · intro w1 hx1; rintro _ rfl; rintro _ rfl; change wpList _ _ _ _ _ _; go_wp2_with fail; exact ⟨rfl, Ext.refl _, rfl, rfl⟩
                · intro w1 hx1; rintro _ rfl; rintro _ rfl; change wpList _ _ _ _ _ _; go_wp2_with fail; exact ⟨rfl, Ext.refl _, rfl, rfl⟩
                · intro w1 hx1; rintro _ rfl; change wpList _ _ _ _ _ _; have m0 := hx1.cell jc; go_wp2_with fail; exact ⟨rfl, Ext.refl _, rfl, rfl⟩
                · intro w1 hx1; rintro _ rfl; rintro _ rfl; change wpList _ _ _ _ _ _; go_wp2_with fail; refine (less_no HL2.out _).mono ?_; rintro e w2 ⟨rfl, hx2⟩; go_wp2_with fail; exact ⟨rfl, hx2, rfl, rfl⟩
                · intro w1 hx1; rintro _ rfl; change wpList _ _ _ _ _ _; go_wp2_with fail; exact ⟨rfl, Ext.refl _, rfl, rfl⟩
              · intro w1 hx1; rintro _ rfl; rintro _ rfl; rintro _ rfl; rintro _ rfl; rintro _ rfl; rintro _ rfl; rintro _ rfl; rintro _ rfl; rintro _ rfl; rintro _ rfl; rintro _ rfl; rintro _ rfl; rintro _ rfl; rintro _ rfl; refine depsThen_nil ?_; dsimp only; simp only [Act.put, List.setIfInBounds_toArray, List.set_cons_zero, List.set_cons_succ]
                have HX2 := Lib.hid (HX.out.trans hx1)
                clear hx1 j0 jc
                go_wp2_with fail
                ((try simp only [Exit.inBlock, Exit.then]); refine bodyPost_ret (results_none rfl _ _ _) rfl ?_)
                refine ⟨rfl, ?_, grown_trans E3.out (grown_of_ext HX2.out)⟩
                have hs := sift_no (by have := HC1.out; omega) HCH.out (by rw [← HP0.out, ← HP2.out, V0.out, VC.out]; exact HL2.out)
                rw [← E4.out, hs]
                exact E2.out.ext HX2.out
            | true =>
              have HL2 := Lib.hid hl2
              clear hl2
              have hw := fun (W : World) (h : Ext wr W) => uO_swp (E2.out.ext h) M0.out M2.out
              have HW := Lib.hid hw
              clear hw
              generalize hv0 : dk[p0]! = y0 at *
              generalize hvc : dk[p2]! = yc at *
              have V0 := Lib.hid hv0
              have VC := Lib.hid hvc
              clear hv0 hvc
              go_upto_region 5 with fail
              refine wp_region_facts [Fact.eq (.slice (some ⟨g, 0, none⟩) N cap),
                  Fact.eq (.int .i64 first),
                  Fact.eq (.int .i64 r),
                  Fact.eq (.int .i64 p0),
                  Fact.eq (.pointer (some ⟨g, p0, none⟩)),
                  Fact.eq (.int .u64 y0),
                  Fact.eq (.slice (some ⟨g, 0, none⟩) N cap),
                  Fact.eq (.int .i64 first),
                  Fact.eq (.int .i64 c2),
                  Fact.eq (.int .i64 p2),
                  Fact.eq (.pointer (some ⟨g, p2, none⟩)),
                  Fact.eq (.int .u64 yc),
                  Fact.eq (.bool true),
                  Fact.eq (.bool false)]
                [[], [], [], [(1, 40), (2, 41)], [(0, 39), (3, 42)], [(4, 43)], [], [], [], [(7, 46), (8, 47)], [(6, 45), (9, 48)], [(10, 49)], [(5, 44), (11, 50)], [(12, 51)]]
                [(0, 39), (1, 40), (2, 41), (3, 42), (4, 43), (5, 44), (6, 45), (7, 46), (8, 47), (9, 48), (10, 49), (11, 50), (12, 51), (13, 52)] (by kernel_rfl) (by kernel_rfl) ?_ ?_
              · refine ⟨?_, ?_, ?_, ?_, ?_, ?_, ?_, ?_, ?_, ?_, ?_, ?_, ?_, ?_, trivial⟩
                · intro w1 hx1; change wpList _ _ _ _ _ _; exact ob_move rfl rfl rfl rfl rfl
                · intro w1 hx1; change wpList _ _ _ _ _ _; exact ob_move rfl rfl rfl rfl rfl
                · intro w1 hx1; change wpList _ _ _ _ _ _; exact ob_move rfl rfl rfl rfl rfl
                · intro w1 hx1; rintro _ rfl; rintro _ rfl; change wpList _ _ _ _ _ _; go_wp2_with fail; exact ⟨rfl, Ext.refl _, rfl, rfl⟩
                · intro w1 hx1; rintro _ rfl; rintro _ rfl; change wpList _ _ _ _ _ _; go_wp2_with fail; exact ⟨rfl, Ext.refl _, rfl, rfl⟩
                · intro w1 hx1; rintro _ rfl; change wpList _ _ _ _ _ _; have m0 := hx1.cell j0; go_wp2_with fail; exact ⟨rfl, Ext.refl _, rfl, rfl⟩
                · intro w1 hx1; change wpList _ _ _ _ _ _; exact ob_move rfl rfl rfl rfl rfl
                · intro w1 hx1; change wpList _ _ _ _ _ _; exact ob_move rfl rfl rfl rfl rfl
                · intro w1 hx1; change wpList _ _ _ _ _ _; exact ob_move rfl rfl rfl rfl rfl
                · intro w1 hx1; rintro _ rfl; rintro _ rfl; change wpList _ _ _ _ _ _; go_wp2_with fail; exact ⟨rfl, Ext.refl _, rfl, rfl⟩
                · intro w1 hx1; rintro _ rfl; rintro _ rfl; change wpList _ _ _ _ _ _; go_wp2_with fail; exact ⟨rfl, Ext.refl _, rfl, rfl⟩
                · intro w1 hx1; rintro _ rfl; change wpList _ _ _ _ _ _; have m0 := hx1.cell jc; go_wp2_with fail; exact ⟨rfl, Ext.refl _, rfl, rfl⟩
                · intro w1 hx1; rintro _ rfl; rintro _ rfl; change wpList _ _ _ _ _ _; go_wp2_with fail; refine (less_yes HL2.out _).mono ?_; rintro e w2 ⟨rfl, hx2⟩; go_wp2_with fail; exact ⟨rfl, hx2, rfl, rfl⟩
                · intro w1 hx1; rintro _ rfl; change wpList _ _ _ _ _ _; go_wp2_with fail; exact ⟨rfl, Ext.refl _, rfl, rfl⟩
              · intro w1 hx1; rintro _ rfl; rintro _ rfl; rintro _ rfl; rintro _ rfl; rintro _ rfl; rintro _ rfl; rintro _ rfl; rintro _ rfl; rintro _ rfl; rintro _ rfl; rintro _ rfl; rintro _ rfl; rintro _ rfl; rintro _ rfl; refine depsThen_nil ?_; dsimp only; simp only [Act.put, List.setIfInBounds_toArray, List.set_cons_zero, List.set_cons_succ]
                have i0 := hx1.cell j0
                have ic := hx1.cell jc
                have z0 := (E2.out.ext (HX.out.trans hx1)).free p0
                have zc := (E2.out.ext (HX.out.trans hx1)).free p2
                have HX2 := Lib.hid (HX.out.trans hx1)
                clear hx1 j0 jc
                go_upto_region 6 with fail
                go_region
                obtain ⟨h3, h4⟩ := HW.out _ HX2.out
                have H3 := Lib.hid (h3.ext (Ext.refl _).drew)
                have H4 := Lib.hid (grown_trans (grown_trans (grown_trans E3.out (grown_of_ext HX2.out)) h4) (grown_of_ext (Ext.refl _).drew))
                clear h3 h4 i0 ic z0 zc
                generalize World.drew _ = wn at *
                go_wp2_with fail
                go_roundw
                case rel =>
                  refine ⟨c2, rfl, by omega, .inr (by omega), _, (swp_size _ _ _).trans E1.out, H3.out, H4.out, ?_⟩
                  have hs := sift_go (by have := HC1.out; omega) HCH.out (by rw [← HP0.out, ← HP2.out, V0.out, VC.out]; exact HL2.out)
                  rw [← HP0.out, ← HP2.out] at hs
                  rw [← E4.out, hs]
                case measure => have := HC1.out; have := HC2.out; simp [intOf]; omega
        | false =>
          have hch : childF dk hi first r = c1 := by
            unfold childF; rw [← HC1.out, ← HC2.out, ← HP1.out, ← HP2.out, hl]; rw [if_neg (by simp)]
          have HCH := Lib.hid hch
          have HL := Lib.hid hl
          clear hch hl
          obtain ⟨x1, hx1v⟩ : ∃ x, dk[p1]! = x := ⟨_, rfl⟩
          obtain ⟨x2, hx2v⟩ : ∃ x, dk[p2]! = x := ⟨_, rfl⟩
          rw [hx1v, hx2v] at HL
          rw [hx1v] at k1
          rw [hx2v] at k2
          have X1 := Lib.hid hx1v
          have X2 := Lib.hid hx2v
          clear hx1v hx2v
          refine wp_region_facts [Fact.eq (.int .i64 c1),
              Fact.eq (.int .i64 c2),
              Fact.eq (.int .i64 hi),
              Fact.eq (.bool true),
              Fact.eq (.bool true),
              Fact.eq (.slice (some ⟨g, 0, none⟩) N cap),
              Fact.eq (.int .i64 first),
              Fact.eq (.int .i64 c1),
              Fact.eq (.int .i64 p1),
              Fact.eq (.pointer (some ⟨g, p1, none⟩)),
              Fact.eq (.int .u64 x1),
              Fact.eq (.slice (some ⟨g, 0, none⟩) N cap),
              Fact.eq (.int .i64 first),
              Fact.eq (.int .i64 c1),
              Fact.eq (.int .i64 p1),
              Fact.eq (.int .i64 p2),
              Fact.eq (.pointer (some ⟨g, p2, none⟩)),
              Fact.eq (.int .u64 x2),
              Fact.eq (.bool false),
              Fact.eq (.bool false)]
            [[], [(0, 17)], [], [(1, 18), (2, 19)], [(3, 20)], [(4, 21)], [(4, 21)], [(4, 21)], [(6, 23), (7, 24), (4, 21)], [(5, 22), (8, 25), (4, 21)], [(9, 26), (4, 21)], [(4, 21)], [(4, 21)], [(4, 21)], [(12, 29), (13, 30), (4, 21)], [(14, 31), (4, 21)], [(11, 28), (15, 32), (4, 21)], [(16, 33), (4, 21)], [(10, 27), (17, 34), (4, 21)], [(4, 21), (18, 35)]]
            [(0, 17), (1, 18), (2, 19), (3, 20), (4, 21), (5, 22), (6, 23), (7, 24), (8, 25), (9, 26), (10, 27), (11, 28), (12, 29), (13, 30), (14, 31), (15, 32), (16, 33), (17, 34), (18, 35), (19, 36)] (by kernel_rfl) (by kernel_rfl) ?_ ?_
          · refine ⟨?_, ?_, ?_, ?_, ?_, ?_, ?_, ?_, ?_, ?_, ?_, ?_, ?_, ?_, ?_, ?_, ?_, ?_, ?_, ?_, trivial⟩
            · intro w1 hx1; change wpList _ _ _ _ _ _; exact ob_move rfl rfl rfl rfl rfl
            · intro w1 hx1; rintro _ rfl; change wpList _ _ _ _ _ _; go_wp2_with fail; exact ⟨rfl, Ext.refl _, rfl, rfl⟩
            · intro w1 hx1; change wpList _ _ _ _ _ _; exact ob_move rfl rfl rfl rfl rfl
            · intro w1 hx1; rintro _ rfl; rintro _ rfl; change wpList _ _ _ _ _ _; go_wp2_with fail; exact ⟨rfl, Ext.refl _, rfl, rfl⟩
            · intro w1 hx1; rintro _ rfl; change wpList _ _ _ _ _ _; exact ob_move rfl rfl rfl rfl rfl
            · intro w1 hx1; rintro _ rfl; change wpList _ _ _ _ _ _; exact ob_move rfl rfl rfl rfl rfl
            · intro w1 hx1; rintro _ rfl; change wpList _ _ _ _ _ _; exact ob_move rfl rfl rfl rfl rfl
            · intro w1 hx1; rintro _ rfl; change wpList _ _ _ _ _ _; exact ob_move rfl rfl rfl rfl rfl
            · intro w1 hx1; rintro _ rfl; rintro _ rfl; rintro _ rfl; change wpList _ _ _ _ _ _; go_wp2_with fail; exact ⟨rfl, Ext.refl _, rfl, rfl⟩
            · intro w1 hx1; rintro _ rfl; rintro _ rfl; rintro _ rfl; change wpList _ _ _ _ _ _; go_wp2_with fail; exact ⟨rfl, Ext.refl _, rfl, rfl⟩
            · intro w1 hx1; rintro _ rfl; rintro _ rfl; change wpList _ _ _ _ _ _; have m0 := hx1.cell k1; go_wp2_with fail; exact ⟨rfl, Ext.refl _, rfl, rfl⟩
            · intro w1 hx1; rintro _ rfl; change wpList _ _ _ _ _ _; exact ob_move rfl rfl rfl rfl rfl
            · intro w1 hx1; rintro _ rfl; change wpList _ _ _ _ _ _; exact ob_move rfl rfl rfl rfl rfl
            · intro w1 hx1; rintro _ rfl; change wpList _ _ _ _ _ _; exact ob_move rfl rfl rfl rfl rfl
            · intro w1 hx1; rintro _ rfl; rintro _ rfl; rintro _ rfl; change wpList _ _ _ _ _ _; go_wp2_with fail; exact ⟨rfl, Ext.refl _, rfl, rfl⟩
            · intro w1 hx1; rintro _ rfl; rintro _ rfl; change wpList _ _ _ _ _ _; go_wp2_with fail; exact ⟨rfl, Ext.refl _, rfl, rfl⟩
            · intro w1 hx1; rintro _ rfl; rintro _ rfl; rintro _ rfl; change wpList _ _ _ _ _ _; go_wp2_with fail; exact ⟨rfl, Ext.refl _, rfl, rfl⟩
            · intro w1 hx1; rintro _ rfl; rintro _ rfl; change wpList _ _ _ _ _ _; have m0 := hx1.cell k2; go_wp2_with fail; exact ⟨rfl, Ext.refl _, rfl, rfl⟩
            · intro w1 hx1; rintro _ rfl; rintro _ rfl; rintro _ rfl; change wpList _ _ _ _ _ _; go_wp2_with fail; refine (less_no HL.out _).mono ?_; rintro e w2 ⟨rfl, hx2⟩; go_wp2_with fail; exact ⟨rfl, hx2, rfl, rfl⟩
            · intro w1 hx1; rintro _ rfl; rintro _ rfl; change wpList _ _ _ _ _ _; exact ob_pick rfl rfl rfl rfl rfl rfl
          · intro w1 hx1; rintro _ rfl; rintro _ rfl; rintro _ rfl; rintro _ rfl; rintro _ rfl; rintro _ rfl; rintro _ rfl; rintro _ rfl; rintro _ rfl; rintro _ rfl; rintro _ rfl; rintro _ rfl; rintro _ rfl; rintro _ rfl; rintro _ rfl; rintro _ rfl; rintro _ rfl; rintro _ rfl; rintro _ rfl; rintro _ rfl; refine depsThen_nil ?_; dsimp only; simp only [Act.put, List.setIfInBounds_toArray, List.set_cons_zero, List.set_cons_succ]
            rw [← X1.out] at k1
            have j0 := hx1.cell k0
            have jc := hx1.cell k1
            have HX := Lib.hid hx1
            clear hx1 k0 k1 k2
            cases hl2 : ltN dk[p0]! dk[p1]! with
            | false =>
              have HL2 := Lib.hid hl2
              clear hl2
              generalize hv0 : dk[p0]! = y0 at *
              generalize hvc : dk[p1]! = yc at *
              have V0 := Lib.hid hv0
              have VC := Lib.hid hvc
              clear hv0 hvc
              go_upto_region 5 with fail
              refine wp_region_facts [Fact.eq (.slice (some ⟨g, 0, none⟩) N cap),
                  Fact.eq (.int .i64 first),
                  Fact.eq (.int .i64 r),
                  Fact.eq (.int .i64 p0),
                  Fact.eq (.pointer (some ⟨g, p0, none⟩)),
                  Fact.eq (.int .u64 y0),
                  Fact.eq (.slice (some ⟨g, 0, none⟩) N cap),
                  Fact.eq (.int .i64 first),
                  Fact.eq (.int .i64 c1),
                  Fact.eq (.int .i64 p1),
                  Fact.eq (.pointer (some ⟨g, p1, none⟩)),
                  Fact.eq (.int .u64 yc),
                  Fact.eq (.bool false),
                  Fact.eq (.bool true)]
                [[], [], [], [(1, 40), (2, 41)], [(0, 39), (3, 42)], [(4, 43)], [], [], [], [(7, 46), (8, 47)], [(6, 45), (9, 48)], [(10, 49)], [(5, 44), (11, 50)], [(12, 51)]]
                [(0, 39), (1, 40), (2, 41), (3, 42), (4, 43), (5, 44), (6, 45), (7, 46), (8, 47), (9, 48), (10, 49), (11, 50), (12, 51), (13, 52)] (by kernel_rfl) (by kernel_rfl) ?_ ?_
              · refine ⟨?_, ?_, ?_, ?_, ?_, ?_, ?_, ?_, ?_, ?_, ?_, ?_, ?_, ?_, trivial⟩
                · intro w1 hx1; change wpList _ _ _ _ _ _; exact ob_move rfl rfl rfl rfl rfl
                · intro w1 hx1; change wpList _ _ _ _ _ _; exact ob_move rfl rfl rfl rfl rfl
                · intro w1 hx1; change wpList _ _ _ _ _ _; exact ob_move rfl rfl rfl rfl rfl
                · intro w1 hx1; rintro _ rfl; rintro _ rfl; change wpList _ _ _ _ _ _; go_wp2_with fail; exact ⟨rfl, Ext.refl _, rfl, rfl⟩
                · intro w1 hx1; rintro _ rfl; rintro _ rfl; change wpList _ _ _ _ _ _; go_wp2_with fail; exact ⟨rfl, Ext.refl _, rfl, rfl⟩
                · intro w1 hx1; rintro _ rfl; change wpList _ _ _ _ _ _; have m0 := hx1.cell j0; go_wp2_with fail; exact ⟨rfl, Ext.refl _, rfl, rfl⟩
                · intro w1 hx1; change wpList _ _ _ _ _ _; exact ob_move rfl rfl rfl rfl rfl
                · intro w1 hx1; change wpList _ _ _ _ _ _; exact ob_move rfl rfl rfl rfl rfl
                · intro w1 hx1; change wpList _ _ _ _ _ _; exact ob_move rfl rfl rfl rfl rfl
                · intro w1 hx1; rintro _ rfl; rintro _ rfl; change wpList _ _ _ _ _ _; go_wp2_with fail; exact ⟨rfl, Ext.refl _, rfl, rfl⟩
                · intro w1 hx1; rintro _ rfl; rintro _ rfl; change wpList _ _ _ _ _ _; go_wp2_with fail; exact ⟨rfl, Ext.refl _, rfl, rfl⟩
                · intro w1 hx1; rintro _ rfl; change wpList _ _ _ _ _ _; have m0 := hx1.cell jc; go_wp2_with fail; exact ⟨rfl, Ext.refl _, rfl, rfl⟩
                · intro w1 hx1; rintro _ rfl; rintro _ rfl; change wpList _ _ _ _ _ _; go_wp2_with fail; refine (less_no HL2.out _).mono ?_; rintro e w2 ⟨rfl, hx2⟩; go_wp2_with fail; exact ⟨rfl, hx2, rfl, rfl⟩
                · intro w1 hx1; rintro _ rfl; change wpList _ _ _ _ _ _; go_wp2_with fail; exact ⟨rfl, Ext.refl _, rfl, rfl⟩
              · intro w1 hx1; rintro _ rfl; rintro _ rfl; rintro _ rfl; rintro _ rfl; rintro _ rfl; rintro _ rfl; rintro _ rfl; rintro _ rfl; rintro _ rfl; rintro _ rfl; rintro _ rfl; rintro _ rfl; rintro _ rfl; rintro _ rfl; refine depsThen_nil ?_; dsimp only; simp only [Act.put, List.setIfInBounds_toArray, List.set_cons_zero, List.set_cons_succ]
                have HX2 := Lib.hid (HX.out.trans hx1)
                clear hx1 j0 jc
                go_wp2_with fail
                ((try simp only [Exit.inBlock, Exit.then]); refine bodyPost_ret (results_none rfl _ _ _) rfl ?_)
                refine ⟨rfl, ?_, grown_trans E3.out (grown_of_ext HX2.out)⟩
                have hs := sift_no (by have := HC1.out; omega) HCH.out (by rw [← HP0.out, ← HP1.out, V0.out, VC.out]; exact HL2.out)
                rw [← E4.out, hs]
                exact E2.out.ext HX2.out
            | true =>
              have HL2 := Lib.hid hl2
              clear hl2
              have hw := fun (W : World) (h : Ext wr W) => uO_swp (E2.out.ext h) M0.out M1.out
              have HW := Lib.hid hw
              clear hw
              generalize hv0 : dk[p0]! = y0 at *
              generalize hvc : dk[p1]! = yc at *
              have V0 := Lib.hid hv0
              have VC := Lib.hid hvc
              clear hv0 hvc
              go_upto_region 5 with fail
              refine wp_region_facts [Fact.eq (.slice (some ⟨g, 0, none⟩) N cap),
                  Fact.eq (.int .i64 first),
                  Fact.eq (.int .i64 r),
                  Fact.eq (.int .i64 p0),
                  Fact.eq (.pointer (some ⟨g, p0, none⟩)),
                  Fact.eq (.int .u64 y0),
                  Fact.eq (.slice (some ⟨g, 0, none⟩) N cap),
                  Fact.eq (.int .i64 first),
                  Fact.eq (.int .i64 c1),
                  Fact.eq (.int .i64 p1),
                  Fact.eq (.pointer (some ⟨g, p1, none⟩)),
                  Fact.eq (.int .u64 yc),
                  Fact.eq (.bool true),
                  Fact.eq (.bool false)]
                [[], [], [], [(1, 40), (2, 41)], [(0, 39), (3, 42)], [(4, 43)], [], [], [], [(7, 46), (8, 47)], [(6, 45), (9, 48)], [(10, 49)], [(5, 44), (11, 50)], [(12, 51)]]
                [(0, 39), (1, 40), (2, 41), (3, 42), (4, 43), (5, 44), (6, 45), (7, 46), (8, 47), (9, 48), (10, 49), (11, 50), (12, 51), (13, 52)] (by kernel_rfl) (by kernel_rfl) ?_ ?_
              · refine ⟨?_, ?_, ?_, ?_, ?_, ?_, ?_, ?_, ?_, ?_, ?_, ?_, ?_, ?_, trivial⟩
                · intro w1 hx1; change wpList _ _ _ _ _ _; exact ob_move rfl rfl rfl rfl rfl
                · intro w1 hx1; change wpList _ _ _ _ _ _; exact ob_move rfl rfl rfl rfl rfl
                · intro w1 hx1; change wpList _ _ _ _ _ _; exact ob_move rfl rfl rfl rfl rfl
                · intro w1 hx1; rintro _ rfl; rintro _ rfl; change wpList _ _ _ _ _ _; go_wp2_with fail; exact ⟨rfl, Ext.refl _, rfl, rfl⟩
                · intro w1 hx1; rintro _ rfl; rintro _ rfl; change wpList _ _ _ _ _ _; go_wp2_with fail; exact ⟨rfl, Ext.refl _, rfl, rfl⟩
                · intro w1 hx1; rintro _ rfl; change wpList _ _ _ _ _ _; have m0 := hx1.cell j0; go_wp2_with fail; exact ⟨rfl, Ext.refl _, rfl, rfl⟩
                · intro w1 hx1; change wpList _ _ _ _ _ _; exact ob_move rfl rfl rfl rfl rfl
                · intro w1 hx1; change wpList _ _ _ _ _ _; exact ob_move rfl rfl rfl rfl rfl
                · intro w1 hx1; change wpList _ _ _ _ _ _; exact ob_move rfl rfl rfl rfl rfl
                · intro w1 hx1; rintro _ rfl; rintro _ rfl; change wpList _ _ _ _ _ _; go_wp2_with fail; exact ⟨rfl, Ext.refl _, rfl, rfl⟩
                · intro w1 hx1; rintro _ rfl; rintro _ rfl; change wpList _ _ _ _ _ _; go_wp2_with fail; exact ⟨rfl, Ext.refl _, rfl, rfl⟩
                · intro w1 hx1; rintro _ rfl; change wpList _ _ _ _ _ _; have m0 := hx1.cell jc; go_wp2_with fail; exact ⟨rfl, Ext.refl _, rfl, rfl⟩
                · intro w1 hx1; rintro _ rfl; rintro _ rfl; change wpList _ _ _ _ _ _; go_wp2_with fail; refine (less_yes HL2.out _).mono ?_; rintro e w2 ⟨rfl, hx2⟩; go_wp2_with fail; exact ⟨rfl, hx2, rfl, rfl⟩
                · intro w1 hx1; rintro _ rfl; change wpList _ _ _ _ _ _; go_wp2_with fail; exact ⟨rfl, Ext.refl _, rfl, rfl⟩
              · intro w1 hx1; rintro _ rfl; rintro _ rfl; rintro _ rfl; rintro _ rfl; rintro _ rfl; rintro _ rfl; rintro _ rfl; rintro _ rfl; rintro _ rfl; rintro _ rfl; rintro _ rfl; rintro _ rfl; rintro _ rfl; rintro _ rfl; refine depsThen_nil ?_; dsimp only; simp only [Act.put, List.setIfInBounds_toArray, List.set_cons_zero, List.set_cons_succ]
                have i0 := hx1.cell j0
                have ic := hx1.cell jc
                have z0 := (E2.out.ext (HX.out.trans hx1)).free p0
                have zc := (E2.out.ext (HX.out.trans hx1)).free p1
                have HX2 := Lib.hid (HX.out.trans hx1)
                clear hx1 j0 jc
                go_upto_region 6 with fail
                go_region
                obtain ⟨h3, h4⟩ := HW.out _ HX2.out
                have H3 := Lib.hid (h3.ext (Ext.refl _).drew)
                have H4 := Lib.hid (grown_trans (grown_trans (grown_trans E3.out (grown_of_ext HX2.out)) h4) (grown_of_ext (Ext.refl _).drew))
                clear h3 h4 i0 ic z0 zc
                generalize World.drew _ = wn at *
                go_wp2_with fail
                go_roundw
                case rel =>
                  refine ⟨c1, rfl, by omega, .inr (by omega), _, (swp_size _ _ _).trans E1.out, H3.out, H4.out, ?_⟩
                  have hs := sift_go (by have := HC1.out; omega) HCH.out (by rw [← HP0.out, ← HP1.out, V0.out, VC.out]; exact HL2.out)
                  rw [← HP0.out, ← HP1.out] at hs
                  rw [← E4.out, hs]
                case measure => have := HC1.out; have := HC2.out; simp [intOf]; omega
      · have hI2 : decide ((c2 : Int) < (hi : Int)) = false := decide_eq_false (by omega)
        have hch : childF dk hi first r = c1 := by
          unfold childF; rw [← HC1.out, ← HC2.out]; rw [if_neg (fun h => h2 h.1)]
        have HCH := Lib.hid hch
        clear hch
        refine wp_region_facts [Fact.eq (.int .i64 c1),
            Fact.eq (.int .i64 c2),
            Fact.eq (.int .i64 hi),
            Fact.eq (.bool false),
            Fact.eq (.bool false),
            Fact.eq undef,
            Fact.eq undef,
            Fact.eq undef,
            Fact.eq undef,
            Fact.eq undef,
            Fact.eq undef,
            Fact.eq undef,
            Fact.eq undef,
            Fact.eq undef,
            Fact.eq undef,
            Fact.eq undef,
            Fact.eq undef,
            Fact.eq undef,
            Fact.eq undef,
            Fact.eq (.bool false)]
          [[], [(0, 17)], [], [(1, 18), (2, 19)], [(3, 20)], [(4, 21)], [(4, 21)], [(4, 21)], [(6, 23), (7, 24), (4, 21)], [(5, 22), (8, 25), (4, 21)], [(9, 26), (4, 21)], [(4, 21)], [(4, 21)], [(4, 21)], [(12, 29), (13, 30), (4, 21)], [(14, 31), (4, 21)], [(11, 28), (15, 32), (4, 21)], [(16, 33), (4, 21)], [(10, 27), (17, 34), (4, 21)], [(4, 21), (18, 35)]]
          [(0, 17), (1, 18), (2, 19), (3, 20), (4, 21), (5, 22), (6, 23), (7, 24), (8, 25), (9, 26), (10, 27), (11, 28), (12, 29), (13, 30), (14, 31), (15, 32), (16, 33), (17, 34), (18, 35), (19, 36)] (by kernel_rfl) (by kernel_rfl) ?_ ?_
        · refine ⟨?_, ?_, ?_, ?_, ?_, ?_, ?_, ?_, ?_, ?_, ?_, ?_, ?_, ?_, ?_, ?_, ?_, ?_, ?_, ?_, trivial⟩
          · intro w1 hx1; change wpList _ _ _ _ _ _; exact ob_move rfl rfl rfl rfl rfl
          · intro w1 hx1; rintro _ rfl; change wpList _ _ _ _ _ _; go_wp2_with fail; exact ⟨rfl, Ext.refl _, rfl, rfl⟩
          · intro w1 hx1; change wpList _ _ _ _ _ _; exact ob_move rfl rfl rfl rfl rfl
          · intro w1 hx1; rintro _ rfl; rintro _ rfl; change wpList _ _ _ _ _ _; go_wp2_with fail; exact ⟨rfl, Ext.refl _, rfl, rfl⟩
          · intro w1 hx1; rintro _ rfl; change wpList _ _ _ _ _ _; exact ob_move rfl rfl rfl rfl rfl
          · intro w1 hx1; rintro _ rfl; change wpList _ _ _ _ _ _; exact ob_skip rfl rfl rfl rfl
          · intro w1 hx1; rintro _ rfl; change wpList _ _ _ _ _ _; exact ob_skip rfl rfl rfl rfl
          · intro w1 hx1; rintro _ rfl; change wpList _ _ _ _ _ _; exact ob_skip rfl rfl rfl rfl
          · intro w1 hx1; rintro _ rfl; rintro _ rfl; rintro _ rfl; change wpList _ _ _ _ _ _; exact ob_skip rfl rfl rfl rfl
          · intro w1 hx1; rintro _ rfl; rintro _ rfl; rintro _ rfl; change wpList _ _ _ _ _ _; exact ob_skip rfl rfl rfl rfl
          · intro w1 hx1; rintro _ rfl; rintro _ rfl; change wpList _ _ _ _ _ _; exact ob_skip rfl rfl rfl rfl
          · intro w1 hx1; rintro _ rfl; change wpList _ _ _ _ _ _; exact ob_skip rfl rfl rfl rfl
          · intro w1 hx1; rintro _ rfl; change wpList _ _ _ _ _ _; exact ob_skip rfl rfl rfl rfl
          · intro w1 hx1; rintro _ rfl; change wpList _ _ _ _ _ _; exact ob_skip rfl rfl rfl rfl
          · intro w1 hx1; rintro _ rfl; rintro _ rfl; rintro _ rfl; change wpList _ _ _ _ _ _; exact ob_skip rfl rfl rfl rfl
          · intro w1 hx1; rintro _ rfl; rintro _ rfl; change wpList _ _ _ _ _ _; exact ob_skip rfl rfl rfl rfl
          · intro w1 hx1; rintro _ rfl; rintro _ rfl; rintro _ rfl; change wpList _ _ _ _ _ _; exact ob_skip rfl rfl rfl rfl
          · intro w1 hx1; rintro _ rfl; rintro _ rfl; change wpList _ _ _ _ _ _; exact ob_skip rfl rfl rfl rfl
          · intro w1 hx1; rintro _ rfl; rintro _ rfl; rintro _ rfl; change wpList _ _ _ _ _ _; exact ob_skip rfl rfl rfl rfl
          · intro w1 hx1; rintro _ rfl; rintro _ rfl; change wpList _ _ _ _ _ _; exact ob_pick rfl rfl rfl rfl rfl rfl
        · intro w1 hx1; rintro _ rfl; rintro _ rfl; rintro _ rfl; rintro _ rfl; rintro _ rfl; rintro _ rfl; rintro _ rfl; rintro _ rfl; rintro _ rfl; rintro _ rfl; rintro _ rfl; rintro _ rfl; rintro _ rfl; rintro _ rfl; rintro _ rfl; rintro _ rfl; rintro _ rfl; rintro _ rfl; rintro _ rfl; rintro _ rfl; refine depsThen_nil ?_; dsimp only; simp only [Act.put, List.setIfInBounds_toArray, List.set_cons_zero, List.set_cons_succ]
          have j0 := hx1.cell k0
          have jc := hx1.cell k1
          have HX := Lib.hid hx1
          clear hx1 k0 k1
          cases hl2 : ltN dk[p0]! dk[p1]! with
          | false =>
            have HL2 := Lib.hid hl2
            clear hl2
            generalize hv0 : dk[p0]! = y0 at *
            generalize hvc : dk[p1]! = yc at *
            have V0 := Lib.hid hv0
            have VC := Lib.hid hvc
            clear hv0 hvc
            go_upto_region 5 with fail
            refine wp_region_facts [Fact.eq (.slice (some ⟨g, 0, none⟩) N cap),
                Fact.eq (.int .i64 first),
                Fact.eq (.int .i64 r),
                Fact.eq (.int .i64 p0),
                Fact.eq (.pointer (some ⟨g, p0, none⟩)),
                Fact.eq (.int .u64 y0),
                Fact.eq (.slice (some ⟨g, 0, none⟩) N cap),
                Fact.eq (.int .i64 first),
                Fact.eq (.int .i64 c1),
                Fact.eq (.int .i64 p1),
                Fact.eq (.pointer (some ⟨g, p1, none⟩)),
                Fact.eq (.int .u64 yc),
                Fact.eq (.bool false),
                Fact.eq (.bool true)]
              [[], [], [], [(1, 40), (2, 41)], [(0, 39), (3, 42)], [(4, 43)], [], [], [], [(7, 46), (8, 47)], [(6, 45), (9, 48)], [(10, 49)], [(5, 44), (11, 50)], [(12, 51)]]
              [(0, 39), (1, 40), (2, 41), (3, 42), (4, 43), (5, 44), (6, 45), (7, 46), (8, 47), (9, 48), (10, 49), (11, 50), (12, 51), (13, 52)] (by kernel_rfl) (by kernel_rfl) ?_ ?_
            · refine ⟨?_, ?_, ?_, ?_, ?_, ?_, ?_, ?_, ?_, ?_, ?_, ?_, ?_, ?_, trivial⟩
              · intro w1 hx1; change wpList _ _ _ _ _ _; exact ob_move rfl rfl rfl rfl rfl
              · intro w1 hx1; change wpList _ _ _ _ _ _; exact ob_move rfl rfl rfl rfl rfl
              · intro w1 hx1; change wpList _ _ _ _ _ _; exact ob_move rfl rfl rfl rfl rfl
              · intro w1 hx1; rintro _ rfl; rintro _ rfl; change wpList _ _ _ _ _ _; go_wp2_with fail; exact ⟨rfl, Ext.refl _, rfl, rfl⟩
              · intro w1 hx1; rintro _ rfl; rintro _ rfl; change wpList _ _ _ _ _ _; go_wp2_with fail; exact ⟨rfl, Ext.refl _, rfl, rfl⟩
              · intro w1 hx1; rintro _ rfl; change wpList _ _ _ _ _ _; have m0 := hx1.cell j0; go_wp2_with fail; exact ⟨rfl, Ext.refl _, rfl, rfl⟩
              · intro w1 hx1; change wpList _ _ _ _ _ _; exact ob_move rfl rfl rfl rfl rfl
              · intro w1 hx1; change wpList _ _ _ _ _ _; exact ob_move rfl rfl rfl rfl rfl
              · intro w1 hx1; change wpList _ _ _ _ _ _; exact ob_move rfl rfl rfl rfl rfl
              · intro w1 hx1; rintro _ rfl; rintro _ rfl; change wpList _ _ _ _ _ _; go_wp2_with fail; exact ⟨rfl, Ext.refl _, rfl, rfl⟩
              · intro w1 hx1; rintro _ rfl; rintro _ rfl; change wpList _ _ _ _ _ _; go_wp2_with fail; exact ⟨rfl, Ext.refl _, rfl, rfl⟩
              · intro w1 hx1; rintro _ rfl; change wpList _ _ _ _ _ _; have m0 := hx1.cell jc; go_wp2_with fail; exact ⟨rfl, Ext.refl _, rfl, rfl⟩
              · intro w1 hx1; rintro _ rfl; rintro _ rfl; change wpList _ _ _ _ _ _; go_wp2_with fail; refine (less_no HL2.out _).mono ?_; rintro e w2 ⟨rfl, hx2⟩; go_wp2_with fail; exact ⟨rfl, hx2, rfl, rfl⟩
              · intro w1 hx1; rintro _ rfl; change wpList _ _ _ _ _ _; go_wp2_with fail; exact ⟨rfl, Ext.refl _, rfl, rfl⟩
            · intro w1 hx1; rintro _ rfl; rintro _ rfl; rintro _ rfl; rintro _ rfl; rintro _ rfl; rintro _ rfl; rintro _ rfl; rintro _ rfl; rintro _ rfl; rintro _ rfl; rintro _ rfl; rintro _ rfl; rintro _ rfl; rintro _ rfl; refine depsThen_nil ?_; dsimp only; simp only [Act.put, List.setIfInBounds_toArray, List.set_cons_zero, List.set_cons_succ]
              have HX2 := Lib.hid (HX.out.trans hx1)
              clear hx1 j0 jc
              go_wp2_with fail
              ((try simp only [Exit.inBlock, Exit.then]); refine bodyPost_ret (results_none rfl _ _ _) rfl ?_)
              refine ⟨rfl, ?_, grown_trans E3.out (grown_of_ext HX2.out)⟩
              have hs := sift_no (by have := HC1.out; omega) HCH.out (by rw [← HP0.out, ← HP1.out, V0.out, VC.out]; exact HL2.out)
              rw [← E4.out, hs]
              exact E2.out.ext HX2.out
          | true =>
            have HL2 := Lib.hid hl2
            clear hl2
            have hw := fun (W : World) (h : Ext wr W) => uO_swp (E2.out.ext h) M0.out M1.out
            have HW := Lib.hid hw
            clear hw
            generalize hv0 : dk[p0]! = y0 at *
            generalize hvc : dk[p1]! = yc at *
            have V0 := Lib.hid hv0
            have VC := Lib.hid hvc
            clear hv0 hvc
            go_upto_region 5 with fail
            refine wp_region_facts [Fact.eq (.slice (some ⟨g, 0, none⟩) N cap),
                Fact.eq (.int .i64 first),
                Fact.eq (.int .i64 r),
                Fact.eq (.int .i64 p0),
                Fact.eq (.pointer (some ⟨g, p0, none⟩)),
                Fact.eq (.int .u64 y0),
                Fact.eq (.slice (some ⟨g, 0, none⟩) N cap),
                Fact.eq (.int .i64 first),
                Fact.eq (.int .i64 c1),
                Fact.eq (.int .i64 p1),
                Fact.eq (.pointer (some ⟨g, p1, none⟩)),
                Fact.eq (.int .u64 yc),
                Fact.eq (.bool true),
                Fact.eq (.bool false)]
              [[], [], [], [(1, 40), (2, 41)], [(0, 39), (3, 42)], [(4, 43)], [], [], [], [(7, 46), (8, 47)], [(6, 45), (9, 48)], [(10, 49)], [(5, 44), (11, 50)], [(12, 51)]]
              [(0, 39), (1, 40), (2, 41), (3, 42), (4, 43), (5, 44), (6, 45), (7, 46), (8, 47), (9, 48), (10, 49), (11, 50), (12, 51), (13, 52)] (by kernel_rfl) (by kernel_rfl) ?_ ?_
            · refine ⟨?_, ?_, ?_, ?_, ?_, ?_, ?_, ?_, ?_, ?_, ?_, ?_, ?_, ?_, trivial⟩
              · intro w1 hx1; change wpList _ _ _ _ _ _; exact ob_move rfl rfl rfl rfl rfl
              · intro w1 hx1; change wpList _ _ _ _ _ _; exact ob_move rfl rfl rfl rfl rfl
              · intro w1 hx1; change wpList _ _ _ _ _ _; exact ob_move rfl rfl rfl rfl rfl
              · intro w1 hx1; rintro _ rfl; rintro _ rfl; change wpList _ _ _ _ _ _; go_wp2_with fail; exact ⟨rfl, Ext.refl _, rfl, rfl⟩
              · intro w1 hx1; rintro _ rfl; rintro _ rfl; change wpList _ _ _ _ _ _; go_wp2_with fail; exact ⟨rfl, Ext.refl _, rfl, rfl⟩
              · intro w1 hx1; rintro _ rfl; change wpList _ _ _ _ _ _; have m0 := hx1.cell j0; go_wp2_with fail; exact ⟨rfl, Ext.refl _, rfl, rfl⟩
              · intro w1 hx1; change wpList _ _ _ _ _ _; exact ob_move rfl rfl rfl rfl rfl
              · intro w1 hx1; change wpList _ _ _ _ _ _; exact ob_move rfl rfl rfl rfl rfl
              · intro w1 hx1; change wpList _ _ _ _ _ _; exact ob_move rfl rfl rfl rfl rfl
              · intro w1 hx1; rintro _ rfl; rintro _ rfl; change wpList _ _ _ _ _ _; go_wp2_with fail; exact ⟨rfl, Ext.refl _, rfl, rfl⟩
              · intro w1 hx1; rintro _ rfl; rintro _ rfl; change wpList _ _ _ _ _ _; go_wp2_with fail; exact ⟨rfl, Ext.refl _, rfl, rfl⟩
              · intro w1 hx1; rintro _ rfl; change wpList _ _ _ _ _ _; have m0 := hx1.cell jc; go_wp2_with fail; exact ⟨rfl, Ext.refl _, rfl, rfl⟩
              · intro w1 hx1; rintro _ rfl; rintro _ rfl; change wpList _ _ _ _ _ _; go_wp2_with fail; refine (less_yes HL2.out _).mono ?_; rintro e w2 ⟨rfl, hx2⟩; go_wp2_with fail; exact ⟨rfl, hx2, rfl, rfl⟩
              · intro w1 hx1; rintro _ rfl; change wpList _ _ _ _ _ _; go_wp2_with fail; exact ⟨rfl, Ext.refl _, rfl, rfl⟩
            · intro w1 hx1; rintro _ rfl; rintro _ rfl; rintro _ rfl; rintro _ rfl; rintro _ rfl; rintro _ rfl; rintro _ rfl; rintro _ rfl; rintro _ rfl; rintro _ rfl; rintro _ rfl; rintro _ rfl; rintro _ rfl; rintro _ rfl; refine depsThen_nil ?_; dsimp only; simp only [Act.put, List.setIfInBounds_toArray, List.set_cons_zero, List.set_cons_succ]
              have i0 := hx1.cell j0
              have ic := hx1.cell jc
              have z0 := (E2.out.ext (HX.out.trans hx1)).free p0
              have zc := (E2.out.ext (HX.out.trans hx1)).free p1
              have HX2 := Lib.hid (HX.out.trans hx1)
              clear hx1 j0 jc
              go_upto_region 6 with fail
              go_region
              obtain ⟨h3, h4⟩ := HW.out _ HX2.out
              have H3 := Lib.hid (h3.ext (Ext.refl _).drew)
              have H4 := Lib.hid (grown_trans (grown_trans (grown_trans E3.out (grown_of_ext HX2.out)) h4) (grown_of_ext (Ext.refl _).drew))
              clear h3 h4 i0 ic z0 zc
              generalize World.drew _ = wn at *
              go_wp2_with fail
              go_roundw
              case rel =>
                refine ⟨c1, rfl, by omega, .inr (by omega), _, (swp_size _ _ _).trans E1.out, H3.out, H4.out, ?_⟩
                have hs := sift_go (by have := HC1.out; omega) HCH.out (by rw [← HP0.out, ← HP1.out, V0.out, VC.out]; exact HL2.out)
                rw [← HP0.out, ← HP1.out] at hs
                rw [← E4.out, hs]
              case measure => have := HC1.out; have := HC2.out; simp [intOf]; omega
    · have hI : decide ((hi : Int) ≤ (c1 : Int)) = true := decide_eq_true (by omega)
      have hI3 : hi ≤ c1 := by omega
      clear h1 hc1
      go_wp2_with fail
      go_end0
      refine ⟨rfl, ?_, E3.out⟩
      have hs : Sort.siftDown ltN hi first r dk = dk := sift_stop (by have := HC1.out; omega)
      rw [← E4.out, hs]
      exact E2.out
end Go.Proofs.Ytlgopjfnknjgjaa