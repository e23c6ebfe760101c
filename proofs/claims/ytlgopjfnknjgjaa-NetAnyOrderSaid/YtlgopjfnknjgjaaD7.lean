/- The document's Same (16): two rows that say the same are told so. -/
import Derived.Test.YtlgopjfnknjgjaaD6
namespace Go.Proofs.Ytlgopjfnknjgjaa
open Go.RowKit Go.MapKept

def hLen : Value → Nat | .slice _ n _ => n | _ => 0
def skI (x : IT) : Nat × Nat × List UInt8 × Nat := (x.n, x.t, x.key, hLen x.h)

set_option maxRecDepth 100000 in
set_option maxHeartbeats 8000000 in
theorem same_yes (w : World) (va vb : Value) (us vs : List IT) (ha : ItemR w va us) (hb : ItemR w vb vs) (he : us.map skI = vs.map skI) :
    Calls Try.prog 16 #[va, vb] w fun e w' => e = .returned (.bool true) ∧ Ext w w' := by
  obtain ⟨aa, cap, rfl, hc, hmx⟩ := ha.shape
  obtain ⟨ab, capb, rfl, hcb, hmxb⟩ := hb.shape
  have hlen : us.length = vs.length := by have := congrArg List.length he; simpa using this
  unfold maxLen at hmx hmxb
  have HA := Lib.hid ha
  have HB := Lib.hid hb
  have HE := Lib.hid he
  clear ha hb he
  rw [← hlen] at hcb ⊢
  rw [← hlen] at HB
  generalize hN : us.length = N at *
  have HN := Lib.hid hN
  have HL := Lib.hid hlen
  clear hN hlen
  go_enter Try.func16, Try.ntmps16
  go_wp2_with fail
  go_loopw [5] (fun i wr => ∃ k : Nat, k ≤ N ∧ i = .int .i64 k ∧ Ext w wr) (fun i _ => N - (intOf i).toNat)
  case atStart => exact ⟨0, Nat.zero_le _, rfl, Ext.refl w⟩
  case round =>
    obtain ⟨k, hk, rfl, hx⟩ := hrel
    by_cases hlt : k < N
    · have hI : decide ((k : Int) < (N : Int)) = true := decide_eq_true (by omega)
      have hkN : (k : Int) < (N : Int) := by omega
      have hkl : k < us.length := by rw [HN.out]; exact hlt
      have hkv : k < vs.length := by rw [← HL.out]; exact hlt
      obtain ⟨B, o, rfl, f0, f1, f2, f3⟩ := (HA.out.ext hx).at hkl
      obtain ⟨C, q, rfl, g0, g1, g2, g3⟩ := (HB.out.ext hx).at hkv
      obtain ⟨xa, xn, xc, hh⟩ := HA.out.hs us[k] (List.getElem_mem hkl)
      obtain ⟨ya, yn, yc, hh2⟩ := HB.out.hs vs[k] (List.getElem_mem hkv)
      rw [hh] at f3
      rw [hh2] at g3
      have hs : skI us[k] = skI vs[k] := by
        have h1 : (us.map skI)[k]? = (vs.map skI)[k]? := by rw [HE.out]
        rw [List.getElem?_map, List.getElem?_map, List.getElem?_eq_getElem hkl, List.getElem?_eq_getElem hkv] at h1
        simpa using h1
      simp only [skI, hh, hh2, hLen, Prod.mk.injEq] at hs
      obtain ⟨s1, s2, s3, rfl⟩ := hs
      rw [← s1] at g0
      rw [← s2] at g1
      rw [← s3] at g2
      clear s1 s2 s3 hh hh2
      generalize us[k].n = n1 at *
      generalize us[k].t = n2 at *
      generalize us[k].key = n3 at *
      go_upto_region 6 with fail
      refine wp_region_facts [Fact.eq (.slice (some ⟨B, o, none⟩) N cap),
          Fact.eq (.int .i64 k),
          Fact.eq (.pointer (some ⟨B, o + k * 4, none⟩)),
          Fact.eq (.pointer (some ⟨B, o + k * 4, none⟩)),
          Fact.eq (.int .u64 n1),
          Fact.eq (.slice (some ⟨C, q, none⟩) N capb),
          Fact.eq (.int .i64 k),
          Fact.eq (.pointer (some ⟨C, q + k * 4, none⟩)),
          Fact.eq (.pointer (some ⟨C, q + k * 4, none⟩)),
          Fact.eq (.int .u64 n1),
          Fact.eq (.bool false),
          Fact.eq (.bool false),
          Fact.eq (.slice (some ⟨B, o, none⟩) N cap),
          Fact.eq (.int .i64 k),
          Fact.eq (.pointer (some ⟨B, o + k * 4, none⟩)),
          Fact.eq (.pointer (some ⟨B, o + k * 4 + 1, none⟩)),
          Fact.eq (.int .u64 n2),
          Fact.eq (.slice (some ⟨C, q, none⟩) N capb),
          Fact.eq (.int .i64 k),
          Fact.eq (.pointer (some ⟨C, q + k * 4, none⟩)),
          Fact.eq (.pointer (some ⟨C, q + k * 4 + 1, none⟩)),
          Fact.eq (.int .u64 n2),
          Fact.eq (.bool false),
          Fact.eq (.bool false),
          Fact.eq (.bool false),
          Fact.eq (.slice (some ⟨B, o, none⟩) N cap),
          Fact.eq (.int .i64 k),
          Fact.eq (.pointer (some ⟨B, o + k * 4, none⟩)),
          Fact.eq (.pointer (some ⟨B, o + k * 4 + 2, none⟩)),
          Fact.eq (.pointer (some ⟨B, o + k * 4 + 2, none⟩)),
          Fact.eq (.string (strOf n3)),
          Fact.eq (.slice (some ⟨C, q, none⟩) N capb),
          Fact.eq (.int .i64 k),
          Fact.eq (.pointer (some ⟨C, q + k * 4, none⟩)),
          Fact.eq (.pointer (some ⟨C, q + k * 4 + 2, none⟩)),
          Fact.eq (.pointer (some ⟨C, q + k * 4 + 2, none⟩)),
          Fact.eq (.string (strOf n3)),
          Fact.eq (.bool false),
          Fact.eq (.bool false),
          Fact.eq (.bool false),
          Fact.eq (.slice (some ⟨B, o, none⟩) N cap),
          Fact.eq (.int .i64 k),
          Fact.eq (.pointer (some ⟨B, o + k * 4, none⟩)),
          Fact.eq (.pointer (some ⟨B, o + k * 4 + 2, none⟩)),
          Fact.eq (.pointer (some ⟨B, o + k * 4 + 2 + 1, none⟩)),
          Fact.eq (.slice xa xn xc),
          Fact.eq (.int .i64 xn),
          Fact.eq (.slice (some ⟨C, q, none⟩) N capb),
          Fact.eq (.int .i64 k),
          Fact.eq (.pointer (some ⟨C, q + k * 4, none⟩)),
          Fact.eq (.pointer (some ⟨C, q + k * 4 + 2, none⟩)),
          Fact.eq (.pointer (some ⟨C, q + k * 4 + 2 + 1, none⟩)),
          Fact.eq (.slice ya xn yc),
          Fact.eq (.int .i64 xn),
          Fact.eq (.bool false),
          Fact.eq (.bool false)]
        [[], [], [(0, 17), (1, 18)], [(2, 19)], [(3, 20)], [], [], [(5, 22), (6, 23)], [(7, 24)], [(8, 25)], [(4, 21), (9, 26)], [(10, 27)], [(11, 28)], [(11, 28)], [(12, 29), (13, 30), (11, 28)], [(14, 31), (11, 28)], [(15, 32), (11, 28)], [(11, 28)], [(11, 28)], [(17, 34), (18, 35), (11, 28)], [(19, 36), (11, 28)], [(20, 37), (11, 28)], [(16, 33), (21, 38), (11, 28)], [(11, 28), (22, 39)], [(23, 40)], [(24, 41)], [(24, 41)], [(25, 42), (26, 43), (24, 41)], [(27, 44), (24, 41)], [(28, 45), (24, 41)], [(29, 46), (24, 41)], [(24, 41)], [(24, 41)], [(31, 48), (32, 49), (24, 41)], [(33, 50), (24, 41)], [(34, 51), (24, 41)], [(35, 52), (24, 41)], [(30, 47), (36, 53), (24, 41)], [(24, 41), (37, 54)], [(38, 55)], [(39, 56)], [(39, 56)], [(40, 57), (41, 58), (39, 56)], [(42, 59), (39, 56)], [(43, 60), (39, 56)], [(44, 61), (39, 56)], [(45, 62), (39, 56)], [(39, 56)], [(39, 56)], [(47, 64), (48, 65), (39, 56)], [(49, 66), (39, 56)], [(50, 67), (39, 56)], [(51, 68), (39, 56)], [(52, 69), (39, 56)], [(46, 63), (53, 70), (39, 56)], [(39, 56), (54, 71)]]
        [(0, 17), (1, 18), (2, 19), (3, 20), (4, 21), (5, 22), (6, 23), (7, 24), (8, 25), (9, 26), (10, 27), (11, 28), (12, 29), (13, 30), (14, 31), (15, 32), (16, 33), (17, 34), (18, 35), (19, 36), (20, 37), (21, 38), (22, 39), (23, 40), (24, 41), (25, 42), (26, 43), (27, 44), (28, 45), (29, 46), (30, 47), (31, 48), (32, 49), (33, 50), (34, 51), (35, 52), (36, 53), (37, 54), (38, 55), (39, 56), (40, 57), (41, 58), (42, 59), (43, 60), (44, 61), (45, 62), (46, 63), (47, 64), (48, 65), (49, 66), (50, 67), (51, 68), (52, 69), (53, 70), (54, 71), (55, 72)] (by kernel_rfl) (by kernel_rfl) ?_ ?_
      · refine ⟨?_, ?_, ?_, ?_, ?_, ?_, ?_, ?_, ?_, ?_, ?_, ?_, ?_, ?_, ?_, ?_, ?_, ?_, ?_, ?_, ?_, ?_, ?_, ?_, ?_, ?_, ?_, ?_, ?_, ?_, ?_, ?_, ?_, ?_, ?_, ?_, ?_, ?_, ?_, ?_, ?_, ?_, ?_, ?_, ?_, ?_, ?_, ?_, ?_, ?_, ?_, ?_, ?_, ?_, ?_, ?_, trivial⟩
        · intro w1 hx1; change wpList _ _ _ _ _ _; exact ob_move rfl rfl rfl rfl rfl
        · intro w1 hx1; change wpList _ _ _ _ _ _; exact ob_move rfl rfl rfl rfl rfl
        · intro w1 hx1; rintro _ rfl; rintro _ rfl; change wpList _ _ _ _ _ _; go_wp2_with fail; exact ⟨rfl, Ext.refl _, rfl, rfl⟩
        · intro w1 hx1; rintro _ rfl; change wpList _ _ _ _ _ _; go_wp2_with fail; exact ⟨rfl, Ext.refl _, rfl, rfl⟩
        · intro w1 hx1; rintro _ rfl; change wpList _ _ _ _ _ _; have m0 := hx1.cell f0; go_wp2_with fail; exact ⟨rfl, Ext.refl _, rfl, rfl⟩
        · intro w1 hx1; change wpList _ _ _ _ _ _; exact ob_move rfl rfl rfl rfl rfl
        · intro w1 hx1; change wpList _ _ _ _ _ _; exact ob_move rfl rfl rfl rfl rfl
        · intro w1 hx1; rintro _ rfl; rintro _ rfl; change wpList _ _ _ _ _ _; go_wp2_with fail; exact ⟨rfl, Ext.refl _, rfl, rfl⟩
        · intro w1 hx1; rintro _ rfl; change wpList _ _ _ _ _ _; go_wp2_with fail; exact ⟨rfl, Ext.refl _, rfl, rfl⟩
        · intro w1 hx1; rintro _ rfl; change wpList _ _ _ _ _ _; have m0 := hx1.cell g0; go_wp2_with fail; exact ⟨rfl, Ext.refl _, rfl, rfl⟩
        · intro w1 hx1; rintro _ rfl; rintro _ rfl; change wpList _ _ _ _ _ _; go_wp2_with fail; exact ⟨rfl, Ext.refl _, rfl, rfl⟩
        · intro w1 hx1; rintro _ rfl; change wpList _ _ _ _ _ _; exact ob_move rfl rfl rfl rfl rfl
        · intro w1 hx1; rintro _ rfl; change wpList _ _ _ _ _ _; exact ob_move rfl rfl rfl rfl rfl
        · intro w1 hx1; rintro _ rfl; change wpList _ _ _ _ _ _; exact ob_move rfl rfl rfl rfl rfl
        · intro w1 hx1; rintro _ rfl; rintro _ rfl; rintro _ rfl; change wpList _ _ _ _ _ _; go_wp2_with fail; exact ⟨rfl, Ext.refl _, rfl, rfl⟩
        · intro w1 hx1; rintro _ rfl; rintro _ rfl; change wpList _ _ _ _ _ _; go_wp2_with fail; exact ⟨rfl, Ext.refl _, rfl, rfl⟩
        · intro w1 hx1; rintro _ rfl; rintro _ rfl; change wpList _ _ _ _ _ _; have m0 := hx1.cell f1; go_wp2_with fail; exact ⟨rfl, Ext.refl _, rfl, rfl⟩
        · intro w1 hx1; rintro _ rfl; change wpList _ _ _ _ _ _; exact ob_move rfl rfl rfl rfl rfl
        · intro w1 hx1; rintro _ rfl; change wpList _ _ _ _ _ _; exact ob_move rfl rfl rfl rfl rfl
        · intro w1 hx1; rintro _ rfl; rintro _ rfl; rintro _ rfl; change wpList _ _ _ _ _ _; go_wp2_with fail; exact ⟨rfl, Ext.refl _, rfl, rfl⟩
        · intro w1 hx1; rintro _ rfl; rintro _ rfl; change wpList _ _ _ _ _ _; go_wp2_with fail; exact ⟨rfl, Ext.refl _, rfl, rfl⟩
        · intro w1 hx1; rintro _ rfl; rintro _ rfl; change wpList _ _ _ _ _ _; have m0 := hx1.cell g1; go_wp2_with fail; exact ⟨rfl, Ext.refl _, rfl, rfl⟩
        · intro w1 hx1; rintro _ rfl; rintro _ rfl; rintro _ rfl; change wpList _ _ _ _ _ _; go_wp2_with fail; exact ⟨rfl, Ext.refl _, rfl, rfl⟩
        · intro w1 hx1; rintro _ rfl; rintro _ rfl; change wpList _ _ _ _ _ _; exact ob_pick rfl rfl rfl rfl rfl rfl
        · intro w1 hx1; rintro _ rfl; change wpList _ _ _ _ _ _; exact ob_move rfl rfl rfl rfl rfl
        · intro w1 hx1; rintro _ rfl; change wpList _ _ _ _ _ _; exact ob_move rfl rfl rfl rfl rfl
        · intro w1 hx1; rintro _ rfl; change wpList _ _ _ _ _ _; exact ob_move rfl rfl rfl rfl rfl
        · intro w1 hx1; rintro _ rfl; rintro _ rfl; rintro _ rfl; change wpList _ _ _ _ _ _; go_wp2_with fail; exact ⟨rfl, Ext.refl _, rfl, rfl⟩
        · intro w1 hx1; rintro _ rfl; rintro _ rfl; change wpList _ _ _ _ _ _; go_wp2_with fail; exact ⟨rfl, Ext.refl _, rfl, rfl⟩
        · intro w1 hx1; rintro _ rfl; rintro _ rfl; change wpList _ _ _ _ _ _; go_wp2_with fail; exact ⟨rfl, Ext.refl _, rfl, rfl⟩
        · intro w1 hx1; rintro _ rfl; rintro _ rfl; change wpList _ _ _ _ _ _; have m0 := hx1.cell f2; go_wp2_with fail; exact ⟨rfl, Ext.refl _, rfl, rfl⟩
        · intro w1 hx1; rintro _ rfl; change wpList _ _ _ _ _ _; exact ob_move rfl rfl rfl rfl rfl
        · intro w1 hx1; rintro _ rfl; change wpList _ _ _ _ _ _; exact ob_move rfl rfl rfl rfl rfl
        · intro w1 hx1; rintro _ rfl; rintro _ rfl; rintro _ rfl; change wpList _ _ _ _ _ _; go_wp2_with fail; exact ⟨rfl, Ext.refl _, rfl, rfl⟩
        · intro w1 hx1; rintro _ rfl; rintro _ rfl; change wpList _ _ _ _ _ _; go_wp2_with fail; exact ⟨rfl, Ext.refl _, rfl, rfl⟩
        · intro w1 hx1; rintro _ rfl; rintro _ rfl; change wpList _ _ _ _ _ _; go_wp2_with fail; exact ⟨rfl, Ext.refl _, rfl, rfl⟩
        · intro w1 hx1; rintro _ rfl; rintro _ rfl; change wpList _ _ _ _ _ _; have m0 := hx1.cell g2; go_wp2_with fail; exact ⟨rfl, Ext.refl _, rfl, rfl⟩
        · intro w1 hx1; rintro _ rfl; rintro _ rfl; rintro _ rfl; change wpList _ _ _ _ _ _; go_wp2_with fail; exact ⟨rfl, Ext.refl _, rfl, rfl⟩
        · intro w1 hx1; rintro _ rfl; rintro _ rfl; change wpList _ _ _ _ _ _; exact ob_pick rfl rfl rfl rfl rfl rfl
        · intro w1 hx1; rintro _ rfl; change wpList _ _ _ _ _ _; exact ob_move rfl rfl rfl rfl rfl
        · intro w1 hx1; rintro _ rfl; change wpList _ _ _ _ _ _; exact ob_move rfl rfl rfl rfl rfl
        · intro w1 hx1; rintro _ rfl; change wpList _ _ _ _ _ _; exact ob_move rfl rfl rfl rfl rfl
        · intro w1 hx1; rintro _ rfl; rintro _ rfl; rintro _ rfl; change wpList _ _ _ _ _ _; go_wp2_with fail; exact ⟨rfl, Ext.refl _, rfl, rfl⟩
        · intro w1 hx1; rintro _ rfl; rintro _ rfl; change wpList _ _ _ _ _ _; go_wp2_with fail; exact ⟨rfl, Ext.refl _, rfl, rfl⟩
        · intro w1 hx1; rintro _ rfl; rintro _ rfl; change wpList _ _ _ _ _ _; go_wp2_with fail; exact ⟨rfl, Ext.refl _, rfl, rfl⟩
        · intro w1 hx1; rintro _ rfl; rintro _ rfl; change wpList _ _ _ _ _ _; have m0 := hx1.cell f3; go_wp2_with fail; exact ⟨rfl, Ext.refl _, rfl, rfl⟩
        · intro w1 hx1; rintro _ rfl; rintro _ rfl; change wpList _ _ _ _ _ _; go_wp2_with fail; exact ⟨rfl, Ext.refl _, rfl, rfl⟩
        · intro w1 hx1; rintro _ rfl; change wpList _ _ _ _ _ _; exact ob_move rfl rfl rfl rfl rfl
        · intro w1 hx1; rintro _ rfl; change wpList _ _ _ _ _ _; exact ob_move rfl rfl rfl rfl rfl
        · intro w1 hx1; rintro _ rfl; rintro _ rfl; rintro _ rfl; change wpList _ _ _ _ _ _; go_wp2_with fail; exact ⟨rfl, Ext.refl _, rfl, rfl⟩
        · intro w1 hx1; rintro _ rfl; rintro _ rfl; change wpList _ _ _ _ _ _; go_wp2_with fail; exact ⟨rfl, Ext.refl _, rfl, rfl⟩
        · intro w1 hx1; rintro _ rfl; rintro _ rfl; change wpList _ _ _ _ _ _; go_wp2_with fail; exact ⟨rfl, Ext.refl _, rfl, rfl⟩
        · intro w1 hx1; rintro _ rfl; rintro _ rfl; change wpList _ _ _ _ _ _; have m0 := hx1.cell g3; go_wp2_with fail; exact ⟨rfl, Ext.refl _, rfl, rfl⟩
        · intro w1 hx1; rintro _ rfl; rintro _ rfl; change wpList _ _ _ _ _ _; go_wp2_with fail; exact ⟨rfl, Ext.refl _, rfl, rfl⟩
        · intro w1 hx1; rintro _ rfl; rintro _ rfl; rintro _ rfl; change wpList _ _ _ _ _ _; go_wp2_with fail; exact ⟨rfl, Ext.refl _, rfl, rfl⟩
        · intro w1 hx1; rintro _ rfl; rintro _ rfl; change wpList _ _ _ _ _ _; exact ob_pick rfl rfl rfl rfl rfl rfl
      · intro w1 hx1; rintro _ rfl; rintro _ rfl; rintro _ rfl; rintro _ rfl; rintro _ rfl; rintro _ rfl; rintro _ rfl; rintro _ rfl; rintro _ rfl; rintro _ rfl; rintro _ rfl; rintro _ rfl; rintro _ rfl; rintro _ rfl; rintro _ rfl; rintro _ rfl; rintro _ rfl; rintro _ rfl; rintro _ rfl; rintro _ rfl; rintro _ rfl; rintro _ rfl; rintro _ rfl; rintro _ rfl; rintro _ rfl; rintro _ rfl; rintro _ rfl; rintro _ rfl; rintro _ rfl; rintro _ rfl; rintro _ rfl; rintro _ rfl; rintro _ rfl; rintro _ rfl; rintro _ rfl; rintro _ rfl; rintro _ rfl; rintro _ rfl; rintro _ rfl; rintro _ rfl; rintro _ rfl; rintro _ rfl; rintro _ rfl; rintro _ rfl; rintro _ rfl; rintro _ rfl; rintro _ rfl; rintro _ rfl; rintro _ rfl; rintro _ rfl; rintro _ rfl; rintro _ rfl; rintro _ rfl; rintro _ rfl; rintro _ rfl; rintro _ rfl; refine depsThen_nil ?_; dsimp only; simp only [Act.put, List.setIfInBounds_toArray, List.set_cons_zero, List.set_cons_succ]
        have HX := Lib.hid (hx.trans hx1)
        clear hx hx1 f0 f1 f2 f3 g0 g1 g2 g3
        go_wp2_with fail
        go_roundw
        case rel => exact ⟨k + 1, hlt, by go_num, HX.out⟩
        case measure => simp [intOf]; omega
    · obtain rfl : k = N := by omega
      have hI : decide ((k : Int) < (k : Int)) = false := decide_eq_false (by omega)
      go_wp2_with fail
      go_ret
      exact ⟨rfl, hx⟩
end Go.Proofs.Ytlgopjfnknjgjaa
