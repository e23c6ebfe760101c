/- The document's goes (36): does the item of a place go? -/
import Derived.Test.YtlgopjfnknjgjaaD4
namespace Go.Proofs.Ytlgopjfnknjgjaa
open Go.RowKit Go.MapKept

def hitR (l : List NK) (x : NK) (i k : Nat) : Bool := match l[k]? with | some y => (decide (x.1 < y.1) || (decide (y.1 = x.1) && decide (i < k))) && decide (y.2 = x.2) | none => false
theorem goesR_at {l : List NK} {i : Nat} {x : NK} (h : l[i]? = some x) : goesR l i = (!x.2.isEmpty && (List.range l.length).any (hitR l x i)) := by
  unfold goesR; rw [h]; rfl
theorem any_range_no {p : Nat → Bool} {n : Nat} (h : ∀ j, j < n → p j = false) : (List.range n).any p = false := by
  rw [List.any_eq_false]; intro j hj; rw [h j (List.mem_range.1 hj)]; decide
theorem any_range_yes {p : Nat → Bool} {n k : Nat} (hk : k < n) (h : p k = true) : (List.range n).any p = true := List.any_eq_true.2 ⟨k, List.mem_range.2 hk, h⟩
theorem no_succ {p : Nat → Bool} {k : Nat} (h : ∀ j, j < k → p j = false) (hk : p k = false) : ∀ j, j < k + 1 → p j = false := fun j hj => by
  by_cases e : j = k
  · rw [e]; exact hk
  · exact h j (by omega)
theorem nk_at {us : List IT} {i : Nat} (h : i < us.length) : (us.map nkOf)[i]? = some (us[i].n, us[i].key) := by rw [List.getElem?_map, List.getElem?_eq_getElem h]; rfl
theorem hit_at {us : List IT} {i k : Nat} (h : k < us.length) (x : NK) : hitR (us.map nkOf) x i k = ((decide (x.1 < us[k].n) || (decide (us[k].n = x.1) && decide (i < k))) && decide (us[k].key = x.2)) := by
  unfold hitR; rw [nk_at h]

set_option maxRecDepth 100000 in
set_option maxHeartbeats 8000000 in
theorem rgoes_any (w : World) (vl : Value) (us : List IT) (hi : ItemR w vl us) (i : Nat) (hil : i < us.length) :
    Calls Try.prog 36 #[vl, .int .i64 i] w fun e w' => e = .returned (.bool (goesR (us.map nkOf) i)) ∧ Ext w w' := by
  obtain ⟨a, cap, rfl, hc, hmx⟩ := hi.shape
  unfold maxLen at hmx
  obtain ⟨B, o, rfl, f0, -, f2, -⟩ := hi.at hil
  have hgo := goesR_at (nk_at hil)
  have HI := Lib.hid hi
  have HG := Lib.hid hgo
  clear hi hgo
  have hiN : (i : Int) < (us.length : Int) := by omega
  generalize us[i].n = ni at *
  generalize us[i].key = key at *
  have hit : ∀ k (h : k < us.length), Hid (hitR (us.map nkOf) (ni, key) i k = ((decide (ni < us[k].n) || (decide (us[k].n = ni) && decide (i < k))) && decide (us[k].key = key))) := fun k h => hit_at h _
  have HIT := Lib.hid hit
  clear hit hil
  generalize hN : us.length = N at HI HG hiN hc ⊢
  have HN := Lib.hid hN
  clear hN
  have hlen : (us.map nkOf).length = N := by rw [List.length_map, HN.out]
  rw [hlen] at HG
  clear hlen
  generalize us.map nkOf = ks at *
  cases hem : key.isEmpty with
  | true =>
    obtain rfl : key = [] := List.isEmpty_iff.1 hem
    clear hem
    go_enter Try.func36, Try.ntmps36
    go_wp2_with fail
    go_ret
    exact ⟨by rw [HG.out]; rfl, Ext.refl w⟩
  | false =>
    have hkb : (key == []) = false := by cases key with | nil => cases hem | cons => rfl
    clear hem
    go_enter Try.func36, Try.ntmps36
    go_wp2_with fail
    have HF := Lib.hid (show key.isEmpty = false by cases key with | nil => cases hkb | cons => rfl)
    clear hkb
    go_loopw [5, 6] (fun kv _ wr => ∃ k : Nat, k ≤ N ∧ kv = .int .i64 k ∧ Hid (∀ j, j < k → hitR ks (ni, key) i j = false) ∧ Ext w wr) (fun kv _ _ => N - (intOf kv).toNat)
    case atStart => exact ⟨0, Nat.zero_le _, rfl, fun j hj => absurd hj (Nat.not_lt_zero _), Ext.refl w⟩
    case round =>
      obtain ⟨k, hk, rfl, hno, hx⟩ := hrel
      by_cases hlt : k < N
      · have hI : decide ((k : Int) < (N : Int)) = true := decide_eq_true (by omega)
        have hkN : (k : Int) < (N : Int) := by omega
        have hkl : k < us.length := by rw [HN.out]; exact hlt
        obtain ⟨B', o', e0, g0, -, g2, -⟩ := (HI.out.ext hx).at hkl
        cases e0
        have f0 := hx.cell f0
        have f2 := hx.cell f2
        have hh := HIT.out k hkl
        generalize us[k].n = nk at *
        generalize us[k].key = kk at *
        have HH := Lib.hid hh
        clear hh
        go_upto_region 6 with fail

        by_cases h1 : ni < nk
        · have hb1 : decide ((ni : Int) < (nk : Int)) = true := decide_eq_true (by omega)
          have hnn : ni < nk ∨ (nk = ni ∧ i < k) := .inl h1
          refine wp_region_facts [Fact.eq (.slice (some ⟨B, o, none⟩) N cap),
              Fact.eq (.int .i64 k),
              Fact.eq (.pointer (some ⟨B, o + k * 4, none⟩)),
              Fact.eq (.pointer (some ⟨B, o + k * 4, none⟩)),
              Fact.eq (.int .u64 nk),
              Fact.eq (.slice (some ⟨B, o, none⟩) N cap),
              Fact.eq (.int .i64 i),
              Fact.eq (.pointer (some ⟨B, o + i * 4, none⟩)),
              Fact.eq (.pointer (some ⟨B, o + i * 4, none⟩)),
              Fact.eq (.int .u64 ni),
              Fact.eq (.bool true),
              Fact.eq (.bool true),
              Fact.eq undef,
              Fact.eq undef,
              Fact.eq undef,
              Fact.eq undef,
              Fact.eq undef,
              Fact.eq undef,
              Fact.eq undef,
              Fact.eq undef,
              Fact.eq undef,
              Fact.eq undef,
              Fact.eq undef,
              Fact.eq undef,
              Fact.eq undef,
              Fact.eq undef,
              Fact.eq undef,
              Fact.eq undef,
              Fact.eq (.bool true),
              Fact.eq (.bool true)]
            [[], [], [(0, 20), (1, 21)], [(2, 22)], [(3, 23)], [], [], [(5, 25), (6, 26)], [(7, 27)], [(8, 28)], [(4, 24), (9, 29)], [(10, 30)], [(11, 31)], [(11, 31)], [(12, 32), (13, 33), (11, 31)], [(14, 34), (11, 31)], [(15, 35), (11, 31)], [(11, 31)], [(11, 31)], [(17, 37), (18, 38), (11, 31)], [(19, 39), (11, 31)], [(20, 40), (11, 31)], [(16, 36), (21, 41), (11, 31)], [(22, 42), (11, 31)], [(23, 43)], [(23, 43)], [(24, 44), (25, 45), (23, 43)], [(23, 43), (26, 46), (11, 31)], [(11, 31), (27, 47)], [(28, 48)]]
            [(0, 20), (1, 21), (2, 22), (3, 23), (4, 24), (5, 25), (6, 26), (7, 27), (8, 28), (9, 29), (10, 30), (11, 31), (12, 32), (13, 33), (14, 34), (15, 35), (16, 36), (17, 37), (18, 38), (19, 39), (20, 40), (21, 41), (22, 42), (23, 43), (24, 44), (25, 45), (26, 46), (27, 47), (28, 48), (29, 6)] (by kernel_rfl) (by kernel_rfl) ?_ ?_
          · refine ⟨?_, ?_, ?_, ?_, ?_, ?_, ?_, ?_, ?_, ?_, ?_, ?_, ?_, ?_, ?_, ?_, ?_, ?_, ?_, ?_, ?_, ?_, ?_, ?_, ?_, ?_, ?_, ?_, ?_, ?_, trivial⟩
            · intro w1 hx1; change wpList _ _ _ _ _ _; exact ob_move rfl rfl rfl rfl rfl
            · intro w1 hx1; change wpList _ _ _ _ _ _; exact ob_move rfl rfl rfl rfl rfl
            · intro w1 hx1; rintro _ rfl; rintro _ rfl; change wpList _ _ _ _ _ _; go_wp2_with fail; exact ⟨rfl, Ext.refl _, rfl, rfl⟩
            · intro w1 hx1; rintro _ rfl; change wpList _ _ _ _ _ _; go_wp2_with fail; exact ⟨rfl, Ext.refl _, rfl, rfl⟩
            · intro w1 hx1; rintro _ rfl; change wpList _ _ _ _ _ _; have m0 := hx1.cell g0; go_wp2_with fail; exact ⟨rfl, Ext.refl _, rfl, rfl⟩
            · intro w1 hx1; change wpList _ _ _ _ _ _; exact ob_move rfl rfl rfl rfl rfl
            · intro w1 hx1; change wpList _ _ _ _ _ _; exact ob_move rfl rfl rfl rfl rfl
            · intro w1 hx1; rintro _ rfl; rintro _ rfl; change wpList _ _ _ _ _ _; go_wp2_with fail; exact ⟨rfl, Ext.refl _, rfl, rfl⟩
            · intro w1 hx1; rintro _ rfl; change wpList _ _ _ _ _ _; go_wp2_with fail; exact ⟨rfl, Ext.refl _, rfl, rfl⟩
            · intro w1 hx1; rintro _ rfl; change wpList _ _ _ _ _ _; have m0 := hx1.cell f0; go_wp2_with fail; exact ⟨rfl, Ext.refl _, rfl, rfl⟩
            · intro w1 hx1; rintro _ rfl; rintro _ rfl; change wpList _ _ _ _ _ _; go_wp2_with fail; exact ⟨rfl, Ext.refl _, rfl, rfl⟩
            · intro w1 hx1; rintro _ rfl; change wpList _ _ _ _ _ _; exact ob_move rfl rfl rfl rfl rfl
            · intro w1 hx1; rintro _ rfl; change wpList _ _ _ _ _ _; exact ob_skip rfl rfl rfl rfl
            · intro w1 hx1; rintro _ rfl; change wpList _ _ _ _ _ _; exact ob_skip rfl rfl rfl rfl
            · intro w1 hx1; rintro _ rfl; rintro _ rfl; rintro _ rfl; change wpList _ _ _ _ _ _; exact ob_skip rfl rfl rfl rfl
            · intro w1 hx1; rintro _ rfl; rintro _ rfl; change wpList _ _ _ _ _ _; exact ob_skip rfl rfl rfl rfl
            · intro w1 hx1; rintro _ rfl; rintro _ rfl; change wpList _ _ _ _ _ _; exact ob_skip rfl rfl rfl rfl
            · intro w1 hx1; rintro _ rfl; change wpList _ _ _ _ _ _; exact ob_skip rfl rfl rfl rfl
            · intro w1 hx1; rintro _ rfl; change wpList _ _ _ _ _ _; exact ob_skip rfl rfl rfl rfl
            · intro w1 hx1; rintro _ rfl; rintro _ rfl; rintro _ rfl; change wpList _ _ _ _ _ _; exact ob_skip rfl rfl rfl rfl
            · intro w1 hx1; rintro _ rfl; rintro _ rfl; change wpList _ _ _ _ _ _; exact ob_skip rfl rfl rfl rfl
            · intro w1 hx1; rintro _ rfl; rintro _ rfl; change wpList _ _ _ _ _ _; exact ob_skip rfl rfl rfl rfl
            · intro w1 hx1; rintro _ rfl; rintro _ rfl; rintro _ rfl; change wpList _ _ _ _ _ _; exact ob_skip rfl rfl rfl rfl
            · intro w1 hx1; rintro _ rfl; rintro _ rfl; change wpList _ _ _ _ _ _; exact ob_skip rfl rfl rfl rfl
            · intro w1 hx1; rintro _ rfl; change wpList _ _ _ _ _ _; exact ob_skip rfl rfl rfl rfl
            · intro w1 hx1; rintro _ rfl; change wpList _ _ _ _ _ _; exact ob_skip rfl rfl rfl rfl
            · intro w1 hx1; rintro _ rfl; rintro _ rfl; rintro _ rfl; change wpList _ _ _ _ _ _; exact ob_skip rfl rfl rfl rfl
            · intro w1 hx1; rintro _ rfl; rintro _ rfl; rintro _ rfl; change wpList _ _ _ _ _ _; exact ob_skip rfl rfl rfl rfl
            · intro w1 hx1; rintro _ rfl; rintro _ rfl; change wpList _ _ _ _ _ _; exact ob_pick rfl rfl rfl rfl rfl rfl
            · intro w1 hx1; rintro _ rfl; change wpList _ _ _ _ _ _; exact ob_assign rfl rfl rfl rfl rfl
          · intro w1 hx1; rintro _ rfl; rintro _ rfl; rintro _ rfl; rintro _ rfl; rintro _ rfl; rintro _ rfl; rintro _ rfl; rintro _ rfl; rintro _ rfl; rintro _ rfl; rintro _ rfl; rintro _ rfl; rintro _ rfl; rintro _ rfl; rintro _ rfl; rintro _ rfl; rintro _ rfl; rintro _ rfl; rintro _ rfl; rintro _ rfl; rintro _ rfl; rintro _ rfl; rintro _ rfl; rintro _ rfl; rintro _ rfl; rintro _ rfl; rintro _ rfl; rintro _ rfl; rintro _ rfl; rintro _ rfl; refine depsThen_nil ?_; dsimp only; simp only [Act.put, List.setIfInBounds_toArray, List.set_cons_zero, List.set_cons_succ]
            have hx := hx.trans hx1
            have g2 := hx1.cell g2
            have f2 := hx1.cell f2
            clear hx1 g0 f0
            go_upto_region 7 with fail
            by_cases hkk : kk = key
            · have hb : (kk == key) = true := beq_iff_eq.2 hkk
              have hv : hitR ks (ni, key) i k = true := by rw [HH.out.out]; simp [hkk, hnn]
              have HV := Lib.hid hv
              clear hkk hv
              refine wp_region_facts [Fact.eq (.bool true),
                  Fact.eq (.bool true),
                  Fact.eq (.slice (some ⟨B, o, none⟩) N cap),
                  Fact.eq (.int .i64 k),
                  Fact.eq (.pointer (some ⟨B, o + k * 4, none⟩)),
                  Fact.eq (.pointer (some ⟨B, o + k * 4 + 2, none⟩)),
                  Fact.eq (.pointer (some ⟨B, o + k * 4 + 2, none⟩)),
                  Fact.eq (.string (strOf kk)),
                  Fact.eq (.slice (some ⟨B, o, none⟩) N cap),
                  Fact.eq (.int .i64 i),
                  Fact.eq (.pointer (some ⟨B, o + i * 4, none⟩)),
                  Fact.eq (.pointer (some ⟨B, o + i * 4 + 2, none⟩)),
                  Fact.eq (.pointer (some ⟨B, o + i * 4 + 2, none⟩)),
                  Fact.eq (.string (strOf key)),
                  Fact.eq (.bool true),
                  Fact.eq (.bool true)]
                [[], [(0, 49)], [(1, 50)], [(1, 50)], [(2, 51), (3, 52), (1, 50)], [(4, 53), (1, 50)], [(5, 54), (1, 50)], [(6, 55), (1, 50)], [(1, 50)], [(1, 50)], [(8, 57), (9, 58), (1, 50)], [(10, 59), (1, 50)], [(11, 60), (1, 50)], [(12, 61), (1, 50)], [(7, 56), (13, 62), (1, 50)], [(1, 50), (14, 63)]]
                [(0, 49), (1, 50), (2, 51), (3, 52), (4, 53), (5, 54), (6, 55), (7, 56), (8, 57), (9, 58), (10, 59), (11, 60), (12, 61), (13, 62), (14, 63), (15, 64)] (by kernel_rfl) (by kernel_rfl) ?_ ?_
              · refine ⟨?_, ?_, ?_, ?_, ?_, ?_, ?_, ?_, ?_, ?_, ?_, ?_, ?_, ?_, ?_, ?_, trivial⟩
                · intro w1 hx1; change wpList _ _ _ _ _ _; exact ob_move rfl rfl rfl rfl rfl
                · intro w1 hx1; rintro _ rfl; change wpList _ _ _ _ _ _; exact ob_move rfl rfl rfl rfl rfl
                · intro w1 hx1; rintro _ rfl; change wpList _ _ _ _ _ _; exact ob_move rfl rfl rfl rfl rfl
                · intro w1 hx1; rintro _ rfl; change wpList _ _ _ _ _ _; exact ob_move rfl rfl rfl rfl rfl
                · intro w1 hx1; rintro _ rfl; rintro _ rfl; rintro _ rfl; change wpList _ _ _ _ _ _; go_wp2_with fail; exact ⟨rfl, Ext.refl _, rfl, rfl⟩
                · intro w1 hx1; rintro _ rfl; rintro _ rfl; change wpList _ _ _ _ _ _; go_wp2_with fail; exact ⟨rfl, Ext.refl _, rfl, rfl⟩
                · intro w1 hx1; rintro _ rfl; rintro _ rfl; change wpList _ _ _ _ _ _; go_wp2_with fail; exact ⟨rfl, Ext.refl _, rfl, rfl⟩
                · intro w1 hx1; rintro _ rfl; rintro _ rfl; change wpList _ _ _ _ _ _; have m0 := hx1.cell g2; go_wp2_with fail; exact ⟨rfl, Ext.refl _, rfl, rfl⟩
                · intro w1 hx1; rintro _ rfl; change wpList _ _ _ _ _ _; exact ob_move rfl rfl rfl rfl rfl
                · intro w1 hx1; rintro _ rfl; change wpList _ _ _ _ _ _; exact ob_move rfl rfl rfl rfl rfl
                · intro w1 hx1; rintro _ rfl; rintro _ rfl; rintro _ rfl; change wpList _ _ _ _ _ _; go_wp2_with fail; exact ⟨rfl, Ext.refl _, rfl, rfl⟩
                · intro w1 hx1; rintro _ rfl; rintro _ rfl; change wpList _ _ _ _ _ _; go_wp2_with fail; exact ⟨rfl, Ext.refl _, rfl, rfl⟩
                · intro w1 hx1; rintro _ rfl; rintro _ rfl; change wpList _ _ _ _ _ _; go_wp2_with fail; exact ⟨rfl, Ext.refl _, rfl, rfl⟩
                · intro w1 hx1; rintro _ rfl; rintro _ rfl; change wpList _ _ _ _ _ _; have m0 := hx1.cell f2; go_wp2_with fail; exact ⟨rfl, Ext.refl _, rfl, rfl⟩
                · intro w1 hx1; rintro _ rfl; rintro _ rfl; rintro _ rfl; change wpList _ _ _ _ _ _; go_wp2_with fail; exact ⟨rfl, Ext.refl _, rfl, rfl⟩
                · intro w1 hx1; rintro _ rfl; rintro _ rfl; change wpList _ _ _ _ _ _; exact ob_pick rfl rfl rfl rfl rfl rfl
              · intro w1 hx1; rintro _ rfl; rintro _ rfl; rintro _ rfl; rintro _ rfl; rintro _ rfl; rintro _ rfl; rintro _ rfl; rintro _ rfl; rintro _ rfl; rintro _ rfl; rintro _ rfl; rintro _ rfl; rintro _ rfl; rintro _ rfl; rintro _ rfl; rintro _ rfl; refine depsThen_nil ?_; dsimp only; simp only [Act.put, List.setIfInBounds_toArray, List.set_cons_zero, List.set_cons_succ]
                have HX := Lib.hid (hx.trans hx1)
                clear hx1 hx f2 g2
                go_wp2_with fail
                go_ret
                exact ⟨by rw [HG.out, HF.out, any_range_yes hlt HV.out]; rfl, HX.out⟩
            · have hb : (kk == key) = false := by cases h : kk == key with | false => rfl | true => exact absurd (beq_iff_eq.1 h) hkk
              have hv : hitR ks (ni, key) i k = false := by rw [HH.out.out]; simp [hkk]
              have HV := Lib.hid hv
              clear hkk hv
              refine wp_region_facts [Fact.eq (.bool true),
                  Fact.eq (.bool true),
                  Fact.eq (.slice (some ⟨B, o, none⟩) N cap),
                  Fact.eq (.int .i64 k),
                  Fact.eq (.pointer (some ⟨B, o + k * 4, none⟩)),
                  Fact.eq (.pointer (some ⟨B, o + k * 4 + 2, none⟩)),
                  Fact.eq (.pointer (some ⟨B, o + k * 4 + 2, none⟩)),
                  Fact.eq (.string (strOf kk)),
                  Fact.eq (.slice (some ⟨B, o, none⟩) N cap),
                  Fact.eq (.int .i64 i),
                  Fact.eq (.pointer (some ⟨B, o + i * 4, none⟩)),
                  Fact.eq (.pointer (some ⟨B, o + i * 4 + 2, none⟩)),
                  Fact.eq (.pointer (some ⟨B, o + i * 4 + 2, none⟩)),
                  Fact.eq (.string (strOf key)),
                  Fact.eq (.bool false),
                  Fact.eq (.bool false)]
                [[], [(0, 49)], [(1, 50)], [(1, 50)], [(2, 51), (3, 52), (1, 50)], [(4, 53), (1, 50)], [(5, 54), (1, 50)], [(6, 55), (1, 50)], [(1, 50)], [(1, 50)], [(8, 57), (9, 58), (1, 50)], [(10, 59), (1, 50)], [(11, 60), (1, 50)], [(12, 61), (1, 50)], [(7, 56), (13, 62), (1, 50)], [(1, 50), (14, 63)]]
                [(0, 49), (1, 50), (2, 51), (3, 52), (4, 53), (5, 54), (6, 55), (7, 56), (8, 57), (9, 58), (10, 59), (11, 60), (12, 61), (13, 62), (14, 63), (15, 64)] (by kernel_rfl) (by kernel_rfl) ?_ ?_
              · refine ⟨?_, ?_, ?_, ?_, ?_, ?_, ?_, ?_, ?_, ?_, ?_, ?_, ?_, ?_, ?_, ?_, trivial⟩
                · intro w1 hx1; change wpList _ _ _ _ _ _; exact ob_move rfl rfl rfl rfl rfl
                · intro w1 hx1; rintro _ rfl; change wpList _ _ _ _ _ _; exact ob_move rfl rfl rfl rfl rfl
                · intro w1 hx1; rintro _ rfl; change wpList _ _ _ _ _ _; exact ob_move rfl rfl rfl rfl rfl
                · intro w1 hx1; rintro _ rfl; change wpList _ _ _ _ _ _; exact ob_move rfl rfl rfl rfl rfl
                · intro w1 hx1; rintro _ rfl; rintro _ rfl; rintro _ rfl; change wpList _ _ _ _ _ _; go_wp2_with fail; exact ⟨rfl, Ext.refl _, rfl, rfl⟩
                · intro w1 hx1; rintro _ rfl; rintro _ rfl; change wpList _ _ _ _ _ _; go_wp2_with fail; exact ⟨rfl, Ext.refl _, rfl, rfl⟩
                · intro w1 hx1; rintro _ rfl; rintro _ rfl; change wpList _ _ _ _ _ _; go_wp2_with fail; exact ⟨rfl, Ext.refl _, rfl, rfl⟩
                · intro w1 hx1; rintro _ rfl; rintro _ rfl; change wpList _ _ _ _ _ _; have m0 := hx1.cell g2; go_wp2_with fail; exact ⟨rfl, Ext.refl _, rfl, rfl⟩
                · intro w1 hx1; rintro _ rfl; change wpList _ _ _ _ _ _; exact ob_move rfl rfl rfl rfl rfl
                · intro w1 hx1; rintro _ rfl; change wpList _ _ _ _ _ _; exact ob_move rfl rfl rfl rfl rfl
                · intro w1 hx1; rintro _ rfl; rintro _ rfl; rintro _ rfl; change wpList _ _ _ _ _ _; go_wp2_with fail; exact ⟨rfl, Ext.refl _, rfl, rfl⟩
                · intro w1 hx1; rintro _ rfl; rintro _ rfl; change wpList _ _ _ _ _ _; go_wp2_with fail; exact ⟨rfl, Ext.refl _, rfl, rfl⟩
                · intro w1 hx1; rintro _ rfl; rintro _ rfl; change wpList _ _ _ _ _ _; go_wp2_with fail; exact ⟨rfl, Ext.refl _, rfl, rfl⟩
                · intro w1 hx1; rintro _ rfl; rintro _ rfl; change wpList _ _ _ _ _ _; have m0 := hx1.cell f2; go_wp2_with fail; exact ⟨rfl, Ext.refl _, rfl, rfl⟩
                · intro w1 hx1; rintro _ rfl; rintro _ rfl; rintro _ rfl; change wpList _ _ _ _ _ _; go_wp2_with fail; exact ⟨rfl, Ext.refl _, rfl, rfl⟩
                · intro w1 hx1; rintro _ rfl; rintro _ rfl; change wpList _ _ _ _ _ _; exact ob_pick rfl rfl rfl rfl rfl rfl
              · intro w1 hx1; rintro _ rfl; rintro _ rfl; rintro _ rfl; rintro _ rfl; rintro _ rfl; rintro _ rfl; rintro _ rfl; rintro _ rfl; rintro _ rfl; rintro _ rfl; rintro _ rfl; rintro _ rfl; rintro _ rfl; rintro _ rfl; rintro _ rfl; rintro _ rfl; refine depsThen_nil ?_; dsimp only; simp only [Act.put, List.setIfInBounds_toArray, List.set_cons_zero, List.set_cons_succ]
                have HX := Lib.hid (hx.trans hx1)
                clear hx1 hx f2 g2
                have HNO : Hid (∀ j, j < k + 1 → hitR ks (ni, key) i j = false) := no_succ hno.out HV.out
                clear hno
                go_wp2_with fail
                go_roundw
                case rel => exact ⟨k + 1, hlt, by go_num, HNO, HX.out⟩
                case measure => simp [intOf]; omega
        · have hb1 : decide ((ni : Int) < (nk : Int)) = false := decide_eq_false (by omega)
          by_cases h2 : nk = ni
          · obtain rfl : ni = nk := h2.symm
            by_cases h3 : i < k
            · have hb3 : decide ((i : Int) < (k : Int)) = true := decide_eq_true (by omega)
              have hnn : ni < ni ∨ (ni = ni ∧ i < k) := .inr ⟨rfl, h3⟩
              refine wp_region_facts [Fact.eq (.slice (some ⟨B, o, none⟩) N cap),
                  Fact.eq (.int .i64 k),
                  Fact.eq (.pointer (some ⟨B, o + k * 4, none⟩)),
                  Fact.eq (.pointer (some ⟨B, o + k * 4, none⟩)),
                  Fact.eq (.int .u64 ni),
                  Fact.eq (.slice (some ⟨B, o, none⟩) N cap),
                  Fact.eq (.int .i64 i),
                  Fact.eq (.pointer (some ⟨B, o + i * 4, none⟩)),
                  Fact.eq (.pointer (some ⟨B, o + i * 4, none⟩)),
                  Fact.eq (.int .u64 ni),
                  Fact.eq (.bool false),
                  Fact.eq (.bool false),
                  Fact.eq (.slice (some ⟨B, o, none⟩) N cap),
                  Fact.eq (.int .i64 k),
                  Fact.eq (.pointer (some ⟨B, o + k * 4, none⟩)),
                  Fact.eq (.pointer (some ⟨B, o + k * 4, none⟩)),
                  Fact.eq (.int .u64 ni),
                  Fact.eq (.slice (some ⟨B, o, none⟩) N cap),
                  Fact.eq (.int .i64 i),
                  Fact.eq (.pointer (some ⟨B, o + i * 4, none⟩)),
                  Fact.eq (.pointer (some ⟨B, o + i * 4, none⟩)),
                  Fact.eq (.int .u64 ni),
                  Fact.eq (.bool true),
                  Fact.eq (.bool true),
                  Fact.eq (.int .i64 k),
                  Fact.eq (.int .i64 i),
                  Fact.eq (.bool true),
                  Fact.eq (.bool true),
                  Fact.eq (.bool true),
                  Fact.eq (.bool true)]
                [[], [], [(0, 20), (1, 21)], [(2, 22)], [(3, 23)], [], [], [(5, 25), (6, 26)], [(7, 27)], [(8, 28)], [(4, 24), (9, 29)], [(10, 30)], [(11, 31)], [(11, 31)], [(12, 32), (13, 33), (11, 31)], [(14, 34), (11, 31)], [(15, 35), (11, 31)], [(11, 31)], [(11, 31)], [(17, 37), (18, 38), (11, 31)], [(19, 39), (11, 31)], [(20, 40), (11, 31)], [(16, 36), (21, 41), (11, 31)], [(22, 42), (11, 31)], [(23, 43)], [(23, 43)], [(24, 44), (25, 45), (23, 43)], [(23, 43), (26, 46), (11, 31)], [(11, 31), (27, 47)], [(28, 48)]]
                [(0, 20), (1, 21), (2, 22), (3, 23), (4, 24), (5, 25), (6, 26), (7, 27), (8, 28), (9, 29), (10, 30), (11, 31), (12, 32), (13, 33), (14, 34), (15, 35), (16, 36), (17, 37), (18, 38), (19, 39), (20, 40), (21, 41), (22, 42), (23, 43), (24, 44), (25, 45), (26, 46), (27, 47), (28, 48), (29, 6)] (by kernel_rfl) (by kernel_rfl) ?_ ?_
              · refine ⟨?_, ?_, ?_, ?_, ?_, ?_, ?_, ?_, ?_, ?_, ?_, ?_, ?_, ?_, ?_, ?_, ?_, ?_, ?_, ?_, ?_, ?_, ?_, ?_, ?_, ?_, ?_, ?_, ?_, ?_, trivial⟩
                · intro w1 hx1; change wpList _ _ _ _ _ _; exact ob_move rfl rfl rfl rfl rfl
                · intro w1 hx1; change wpList _ _ _ _ _ _; exact ob_move rfl rfl rfl rfl rfl
                · intro w1 hx1; rintro _ rfl; rintro _ rfl; change wpList _ _ _ _ _ _; go_wp2_with fail; exact ⟨rfl, Ext.refl _, rfl, rfl⟩
                · intro w1 hx1; rintro _ rfl; change wpList _ _ _ _ _ _; go_wp2_with fail; exact ⟨rfl, Ext.refl _, rfl, rfl⟩
                · intro w1 hx1; rintro _ rfl; change wpList _ _ _ _ _ _; have m0 := hx1.cell g0; go_wp2_with fail; exact ⟨rfl, Ext.refl _, rfl, rfl⟩
                · intro w1 hx1; change wpList _ _ _ _ _ _; exact ob_move rfl rfl rfl rfl rfl
                · intro w1 hx1; change wpList _ _ _ _ _ _; exact ob_move rfl rfl rfl rfl rfl
                · intro w1 hx1; rintro _ rfl; rintro _ rfl; change wpList _ _ _ _ _ _; go_wp2_with fail; exact ⟨rfl, Ext.refl _, rfl, rfl⟩
                · intro w1 hx1; rintro _ rfl; change wpList _ _ _ _ _ _; go_wp2_with fail; exact ⟨rfl, Ext.refl _, rfl, rfl⟩
                · intro w1 hx1; rintro _ rfl; change wpList _ _ _ _ _ _; have m0 := hx1.cell f0; go_wp2_with fail; exact ⟨rfl, Ext.refl _, rfl, rfl⟩
                · intro w1 hx1; rintro _ rfl; rintro _ rfl; change wpList _ _ _ _ _ _; go_wp2_with fail; exact ⟨rfl, Ext.refl _, rfl, rfl⟩
                · intro w1 hx1; rintro _ rfl; change wpList _ _ _ _ _ _; exact ob_move rfl rfl rfl rfl rfl
                · intro w1 hx1; rintro _ rfl; change wpList _ _ _ _ _ _; exact ob_move rfl rfl rfl rfl rfl
                · intro w1 hx1; rintro _ rfl; change wpList _ _ _ _ _ _; exact ob_move rfl rfl rfl rfl rfl
                · intro w1 hx1; rintro _ rfl; rintro _ rfl; rintro _ rfl; change wpList _ _ _ _ _ _; go_wp2_with fail; exact ⟨rfl, Ext.refl _, rfl, rfl⟩
                · intro w1 hx1; rintro _ rfl; rintro _ rfl; change wpList _ _ _ _ _ _; go_wp2_with fail; exact ⟨rfl, Ext.refl _, rfl, rfl⟩
                · intro w1 hx1; rintro _ rfl; rintro _ rfl; change wpList _ _ _ _ _ _; have m0 := hx1.cell g0; go_wp2_with fail; exact ⟨rfl, Ext.refl _, rfl, rfl⟩
                · intro w1 hx1; rintro _ rfl; change wpList _ _ _ _ _ _; exact ob_move rfl rfl rfl rfl rfl
                · intro w1 hx1; rintro _ rfl; change wpList _ _ _ _ _ _; exact ob_move rfl rfl rfl rfl rfl
                · intro w1 hx1; rintro _ rfl; rintro _ rfl; rintro _ rfl; change wpList _ _ _ _ _ _; go_wp2_with fail; exact ⟨rfl, Ext.refl _, rfl, rfl⟩
                · intro w1 hx1; rintro _ rfl; rintro _ rfl; change wpList _ _ _ _ _ _; go_wp2_with fail; exact ⟨rfl, Ext.refl _, rfl, rfl⟩
                · intro w1 hx1; rintro _ rfl; rintro _ rfl; change wpList _ _ _ _ _ _; have m0 := hx1.cell f0; go_wp2_with fail; exact ⟨rfl, Ext.refl _, rfl, rfl⟩
                · intro w1 hx1; rintro _ rfl; rintro _ rfl; rintro _ rfl; change wpList _ _ _ _ _ _; go_wp2_with fail; exact ⟨rfl, Ext.refl _, rfl, rfl⟩
                · intro w1 hx1; rintro _ rfl; rintro _ rfl; change wpList _ _ _ _ _ _; exact ob_move rfl rfl rfl rfl rfl
                · intro w1 hx1; rintro _ rfl; change wpList _ _ _ _ _ _; exact ob_move rfl rfl rfl rfl rfl
                · intro w1 hx1; rintro _ rfl; change wpList _ _ _ _ _ _; exact ob_move rfl rfl rfl rfl rfl
                · intro w1 hx1; rintro _ rfl; rintro _ rfl; rintro _ rfl; change wpList _ _ _ _ _ _; go_wp2_with fail; exact ⟨rfl, Ext.refl _, rfl, rfl⟩
                · intro w1 hx1; rintro _ rfl; rintro _ rfl; rintro _ rfl; change wpList _ _ _ _ _ _; exact ob_pick rfl rfl rfl rfl rfl rfl
                · intro w1 hx1; rintro _ rfl; rintro _ rfl; change wpList _ _ _ _ _ _; exact ob_pick rfl rfl rfl rfl rfl rfl
                · intro w1 hx1; rintro _ rfl; change wpList _ _ _ _ _ _; exact ob_assign rfl rfl rfl rfl rfl
              · intro w1 hx1; rintro _ rfl; rintro _ rfl; rintro _ rfl; rintro _ rfl; rintro _ rfl; rintro _ rfl; rintro _ rfl; rintro _ rfl; rintro _ rfl; rintro _ rfl; rintro _ rfl; rintro _ rfl; rintro _ rfl; rintro _ rfl; rintro _ rfl; rintro _ rfl; rintro _ rfl; rintro _ rfl; rintro _ rfl; rintro _ rfl; rintro _ rfl; rintro _ rfl; rintro _ rfl; rintro _ rfl; rintro _ rfl; rintro _ rfl; rintro _ rfl; rintro _ rfl; rintro _ rfl; rintro _ rfl; refine depsThen_nil ?_; dsimp only; simp only [Act.put, List.setIfInBounds_toArray, List.set_cons_zero, List.set_cons_succ]
                have hx := hx.trans hx1
                have g2 := hx1.cell g2
                have f2 := hx1.cell f2
                clear hx1 g0 f0
                go_upto_region 7 with fail
                by_cases hkk : kk = key
                · have hb : (kk == key) = true := beq_iff_eq.2 hkk
                  have hv : hitR ks (ni, key) i k = true := by rw [HH.out.out]; simp [hkk, h3]
                  have HV := Lib.hid hv
                  clear hkk hv
                  refine wp_region_facts [Fact.eq (.bool true),
                      Fact.eq (.bool true),
                      Fact.eq (.slice (some ⟨B, o, none⟩) N cap),
                      Fact.eq (.int .i64 k),
                      Fact.eq (.pointer (some ⟨B, o + k * 4, none⟩)),
                      Fact.eq (.pointer (some ⟨B, o + k * 4 + 2, none⟩)),
                      Fact.eq (.pointer (some ⟨B, o + k * 4 + 2, none⟩)),
                      Fact.eq (.string (strOf kk)),
                      Fact.eq (.slice (some ⟨B, o, none⟩) N cap),
                      Fact.eq (.int .i64 i),
                      Fact.eq (.pointer (some ⟨B, o + i * 4, none⟩)),
                      Fact.eq (.pointer (some ⟨B, o + i * 4 + 2, none⟩)),
                      Fact.eq (.pointer (some ⟨B, o + i * 4 + 2, none⟩)),
                      Fact.eq (.string (strOf key)),
                      Fact.eq (.bool true),
                      Fact.eq (.bool true)]
                    [[], [(0, 49)], [(1, 50)], [(1, 50)], [(2, 51), (3, 52), (1, 50)], [(4, 53), (1, 50)], [(5, 54), (1, 50)], [(6, 55), (1, 50)], [(1, 50)], [(1, 50)], [(8, 57), (9, 58), (1, 50)], [(10, 59), (1, 50)], [(11, 60), (1, 50)], [(12, 61), (1, 50)], [(7, 56), (13, 62), (1, 50)], [(1, 50), (14, 63)]]
                    [(0, 49), (1, 50), (2, 51), (3, 52), (4, 53), (5, 54), (6, 55), (7, 56), (8, 57), (9, 58), (10, 59), (11, 60), (12, 61), (13, 62), (14, 63), (15, 64)] (by kernel_rfl) (by kernel_rfl) ?_ ?_
                  · refine ⟨?_, ?_, ?_, ?_, ?_, ?_, ?_, ?_, ?_, ?_, ?_, ?_, ?_, ?_, ?_, ?_, trivial⟩
                    · intro w1 hx1; change wpList _ _ _ _ _ _; exact ob_move rfl rfl rfl rfl rfl
                    · intro w1 hx1; rintro _ rfl; change wpList _ _ _ _ _ _; exact ob_move rfl rfl rfl rfl rfl
                    · intro w1 hx1; rintro _ rfl; change wpList _ _ _ _ _ _; exact ob_move rfl rfl rfl rfl rfl
                    · intro w1 hx1; rintro _ rfl; change wpList _ _ _ _ _ _; exact ob_move rfl rfl rfl rfl rfl
                    · intro w1 hx1; rintro _ rfl; rintro _ rfl; rintro _ rfl; change wpList _ _ _ _ _ _; go_wp2_with fail; exact ⟨rfl, Ext.refl _, rfl, rfl⟩
                    · intro w1 hx1; rintro _ rfl; rintro _ rfl; change wpList _ _ _ _ _ _; go_wp2_with fail; exact ⟨rfl, Ext.refl _, rfl, rfl⟩
                    · intro w1 hx1; rintro _ rfl; rintro _ rfl; change wpList _ _ _ _ _ _; go_wp2_with fail; exact ⟨rfl, Ext.refl _, rfl, rfl⟩
                    · intro w1 hx1; rintro _ rfl; rintro _ rfl; change wpList _ _ _ _ _ _; have m0 := hx1.cell g2; go_wp2_with fail; exact ⟨rfl, Ext.refl _, rfl, rfl⟩
                    · intro w1 hx1; rintro _ rfl; change wpList _ _ _ _ _ _; exact ob_move rfl rfl rfl rfl rfl
                    · intro w1 hx1; rintro _ rfl; change wpList _ _ _ _ _ _; exact ob_move rfl rfl rfl rfl rfl
                    · intro w1 hx1; rintro _ rfl; rintro _ rfl; rintro _ rfl; change wpList _ _ _ _ _ _; go_wp2_with fail; exact ⟨rfl, Ext.refl _, rfl, rfl⟩
                    · intro w1 hx1; rintro _ rfl; rintro _ rfl; change wpList _ _ _ _ _ _; go_wp2_with fail; exact ⟨rfl, Ext.refl _, rfl, rfl⟩
                    · intro w1 hx1; rintro _ rfl; rintro _ rfl; change wpList _ _ _ _ _ _; go_wp2_with fail; exact ⟨rfl, Ext.refl _, rfl, rfl⟩
                    · intro w1 hx1; rintro _ rfl; rintro _ rfl; change wpList _ _ _ _ _ _; have m0 := hx1.cell f2; go_wp2_with fail; exact ⟨rfl, Ext.refl _, rfl, rfl⟩
                    · intro w1 hx1; rintro _ rfl; rintro _ rfl; rintro _ rfl; change wpList _ _ _ _ _ _; go_wp2_with fail; exact ⟨rfl, Ext.refl _, rfl, rfl⟩
                    · intro w1 hx1; rintro _ rfl; rintro _ rfl; change wpList _ _ _ _ _ _; exact ob_pick rfl rfl rfl rfl rfl rfl
                  · intro w1 hx1; rintro _ rfl; rintro _ rfl; rintro _ rfl; rintro _ rfl; rintro _ rfl; rintro _ rfl; rintro _ rfl; rintro _ rfl; rintro _ rfl; rintro _ rfl; rintro _ rfl; rintro _ rfl; rintro _ rfl; rintro _ rfl; rintro _ rfl; rintro _ rfl; refine depsThen_nil ?_; dsimp only; simp only [Act.put, List.setIfInBounds_toArray, List.set_cons_zero, List.set_cons_succ]
                    have HX := Lib.hid (hx.trans hx1)
                    clear hx1 hx f2 g2
                    go_wp2_with fail
                    go_ret
                    exact ⟨by rw [HG.out, HF.out, any_range_yes hlt HV.out]; rfl, HX.out⟩
                · have hb : (kk == key) = false := by cases h : kk == key with | false => rfl | true => exact absurd (beq_iff_eq.1 h) hkk
                  have hv : hitR ks (ni, key) i k = false := by rw [HH.out.out]; simp [hkk]
                  have HV := Lib.hid hv
                  clear hkk hv
                  refine wp_region_facts [Fact.eq (.bool true),
                      Fact.eq (.bool true),
                      Fact.eq (.slice (some ⟨B, o, none⟩) N cap),
                      Fact.eq (.int .i64 k),
                      Fact.eq (.pointer (some ⟨B, o + k * 4, none⟩)),
                      Fact.eq (.pointer (some ⟨B, o + k * 4 + 2, none⟩)),
                      Fact.eq (.pointer (some ⟨B, o + k * 4 + 2, none⟩)),
                      Fact.eq (.string (strOf kk)),
                      Fact.eq (.slice (some ⟨B, o, none⟩) N cap),
                      Fact.eq (.int .i64 i),
                      Fact.eq (.pointer (some ⟨B, o + i * 4, none⟩)),
                      Fact.eq (.pointer (some ⟨B, o + i * 4 + 2, none⟩)),
                      Fact.eq (.pointer (some ⟨B, o + i * 4 + 2, none⟩)),
                      Fact.eq (.string (strOf key)),
                      Fact.eq (.bool false),
                      Fact.eq (.bool false)]
                    [[], [(0, 49)], [(1, 50)], [(1, 50)], [(2, 51), (3, 52), (1, 50)], [(4, 53), (1, 50)], [(5, 54), (1, 50)], [(6, 55), (1, 50)], [(1, 50)], [(1, 50)], [(8, 57), (9, 58), (1, 50)], [(10, 59), (1, 50)], [(11, 60), (1, 50)], [(12, 61), (1, 50)], [(7, 56), (13, 62), (1, 50)], [(1, 50), (14, 63)]]
                    [(0, 49), (1, 50), (2, 51), (3, 52), (4, 53), (5, 54), (6, 55), (7, 56), (8, 57), (9, 58), (10, 59), (11, 60), (12, 61), (13, 62), (14, 63), (15, 64)] (by kernel_rfl) (by kernel_rfl) ?_ ?_
                  · refine ⟨?_, ?_, ?_, ?_, ?_, ?_, ?_, ?_, ?_, ?_, ?_, ?_, ?_, ?_, ?_, ?_, trivial⟩
                    · intro w1 hx1; change wpList _ _ _ _ _ _; exact ob_move rfl rfl rfl rfl rfl
                    · intro w1 hx1; rintro _ rfl; change wpList _ _ _ _ _ _; exact ob_move rfl rfl rfl rfl rfl
                    · intro w1 hx1; rintro _ rfl; change wpList _ _ _ _ _ _; exact ob_move rfl rfl rfl rfl rfl
                    · intro w1 hx1; rintro _ rfl; change wpList _ _ _ _ _ _; exact ob_move rfl rfl rfl rfl rfl
                    · intro w1 hx1; rintro _ rfl; rintro _ rfl; rintro _ rfl; change wpList _ _ _ _ _ _; go_wp2_with fail; exact ⟨rfl, Ext.refl _, rfl, rfl⟩
                    · intro w1 hx1; rintro _ rfl; rintro _ rfl; change wpList _ _ _ _ _ _; go_wp2_with fail; exact ⟨rfl, Ext.refl _, rfl, rfl⟩
                    · intro w1 hx1; rintro _ rfl; rintro _ rfl; change wpList _ _ _ _ _ _; go_wp2_with fail; exact ⟨rfl, Ext.refl _, rfl, rfl⟩
                    · intro w1 hx1; rintro _ rfl; rintro _ rfl; change wpList _ _ _ _ _ _; have m0 := hx1.cell g2; go_wp2_with fail; exact ⟨rfl, Ext.refl _, rfl, rfl⟩
                    · intro w1 hx1; rintro _ rfl; change wpList _ _ _ _ _ _; exact ob_move rfl rfl rfl rfl rfl
                    · intro w1 hx1; rintro _ rfl; change wpList _ _ _ _ _ _; exact ob_move rfl rfl rfl rfl rfl
                    · intro w1 hx1; rintro _ rfl; rintro _ rfl; rintro _ rfl; change wpList _ _ _ _ _ _; go_wp2_with fail; exact ⟨rfl, Ext.refl _, rfl, rfl⟩
                    · intro w1 hx1; rintro _ rfl; rintro _ rfl; change wpList _ _ _ _ _ _; go_wp2_with fail; exact ⟨rfl, Ext.refl _, rfl, rfl⟩
                    · intro w1 hx1; rintro _ rfl; rintro _ rfl; change wpList _ _ _ _ _ _; go_wp2_with fail; exact ⟨rfl, Ext.refl _, rfl, rfl⟩
                    · intro w1 hx1; rintro _ rfl; rintro _ rfl; change wpList _ _ _ _ _ _; have m0 := hx1.cell f2; go_wp2_with fail; exact ⟨rfl, Ext.refl _, rfl, rfl⟩
                    · intro w1 hx1; rintro _ rfl; rintro _ rfl; rintro _ rfl; change wpList _ _ _ _ _ _; go_wp2_with fail; exact ⟨rfl, Ext.refl _, rfl, rfl⟩
                    · intro w1 hx1; rintro _ rfl; rintro _ rfl; change wpList _ _ _ _ _ _; exact ob_pick rfl rfl rfl rfl rfl rfl
                  · intro w1 hx1; rintro _ rfl; rintro _ rfl; rintro _ rfl; rintro _ rfl; rintro _ rfl; rintro _ rfl; rintro _ rfl; rintro _ rfl; rintro _ rfl; rintro _ rfl; rintro _ rfl; rintro _ rfl; rintro _ rfl; rintro _ rfl; rintro _ rfl; rintro _ rfl; refine depsThen_nil ?_; dsimp only; simp only [Act.put, List.setIfInBounds_toArray, List.set_cons_zero, List.set_cons_succ]
                    have HX := Lib.hid (hx.trans hx1)
                    clear hx1 hx f2 g2
                    have HNO : Hid (∀ j, j < k + 1 → hitR ks (ni, key) i j = false) := no_succ hno.out HV.out
                    clear hno
                    go_wp2_with fail
                    go_roundw
                    case rel => exact ⟨k + 1, hlt, by go_num, HNO, HX.out⟩
                    case measure => simp [intOf]; omega
            · have hb3 : decide ((i : Int) < (k : Int)) = false := decide_eq_false (by omega)
              refine wp_region_facts [Fact.eq (.slice (some ⟨B, o, none⟩) N cap),
                  Fact.eq (.int .i64 k),
                  Fact.eq (.pointer (some ⟨B, o + k * 4, none⟩)),
                  Fact.eq (.pointer (some ⟨B, o + k * 4, none⟩)),
                  Fact.eq (.int .u64 ni),
                  Fact.eq (.slice (some ⟨B, o, none⟩) N cap),
                  Fact.eq (.int .i64 i),
                  Fact.eq (.pointer (some ⟨B, o + i * 4, none⟩)),
                  Fact.eq (.pointer (some ⟨B, o + i * 4, none⟩)),
                  Fact.eq (.int .u64 ni),
                  Fact.eq (.bool false),
                  Fact.eq (.bool false),
                  Fact.eq (.slice (some ⟨B, o, none⟩) N cap),
                  Fact.eq (.int .i64 k),
                  Fact.eq (.pointer (some ⟨B, o + k * 4, none⟩)),
                  Fact.eq (.pointer (some ⟨B, o + k * 4, none⟩)),
                  Fact.eq (.int .u64 ni),
                  Fact.eq (.slice (some ⟨B, o, none⟩) N cap),
                  Fact.eq (.int .i64 i),
                  Fact.eq (.pointer (some ⟨B, o + i * 4, none⟩)),
                  Fact.eq (.pointer (some ⟨B, o + i * 4, none⟩)),
                  Fact.eq (.int .u64 ni),
                  Fact.eq (.bool true),
                  Fact.eq (.bool true),
                  Fact.eq (.int .i64 k),
                  Fact.eq (.int .i64 i),
                  Fact.eq (.bool false),
                  Fact.eq (.bool false),
                  Fact.eq (.bool false),
                  Fact.eq (.bool false)]
                [[], [], [(0, 20), (1, 21)], [(2, 22)], [(3, 23)], [], [], [(5, 25), (6, 26)], [(7, 27)], [(8, 28)], [(4, 24), (9, 29)], [(10, 30)], [(11, 31)], [(11, 31)], [(12, 32), (13, 33), (11, 31)], [(14, 34), (11, 31)], [(15, 35), (11, 31)], [(11, 31)], [(11, 31)], [(17, 37), (18, 38), (11, 31)], [(19, 39), (11, 31)], [(20, 40), (11, 31)], [(16, 36), (21, 41), (11, 31)], [(22, 42), (11, 31)], [(23, 43)], [(23, 43)], [(24, 44), (25, 45), (23, 43)], [(23, 43), (26, 46), (11, 31)], [(11, 31), (27, 47)], [(28, 48)]]
                [(0, 20), (1, 21), (2, 22), (3, 23), (4, 24), (5, 25), (6, 26), (7, 27), (8, 28), (9, 29), (10, 30), (11, 31), (12, 32), (13, 33), (14, 34), (15, 35), (16, 36), (17, 37), (18, 38), (19, 39), (20, 40), (21, 41), (22, 42), (23, 43), (24, 44), (25, 45), (26, 46), (27, 47), (28, 48), (29, 6)] (by kernel_rfl) (by kernel_rfl) ?_ ?_
              · refine ⟨?_, ?_, ?_, ?_, ?_, ?_, ?_, ?_, ?_, ?_, ?_, ?_, ?_, ?_, ?_, ?_, ?_, ?_, ?_, ?_, ?_, ?_, ?_, ?_, ?_, ?_, ?_, ?_, ?_, ?_, trivial⟩
                · intro w1 hx1; change wpList _ _ _ _ _ _; exact ob_move rfl rfl rfl rfl rfl
                · intro w1 hx1; change wpList _ _ _ _ _ _; exact ob_move rfl rfl rfl rfl rfl
                · intro w1 hx1; rintro _ rfl; rintro _ rfl; change wpList _ _ _ _ _ _; go_wp2_with fail; exact ⟨rfl, Ext.refl _, rfl, rfl⟩
                · intro w1 hx1; rintro _ rfl; change wpList _ _ _ _ _ _; go_wp2_with fail; exact ⟨rfl, Ext.refl _, rfl, rfl⟩
                · intro w1 hx1; rintro _ rfl; change wpList _ _ _ _ _ _; have m0 := hx1.cell g0; go_wp2_with fail; exact ⟨rfl, Ext.refl _, rfl, rfl⟩
                · intro w1 hx1; change wpList _ _ _ _ _ _; exact ob_move rfl rfl rfl rfl rfl
                · intro w1 hx1; change wpList _ _ _ _ _ _; exact ob_move rfl rfl rfl rfl rfl
                · intro w1 hx1; rintro _ rfl; rintro _ rfl; change wpList _ _ _ _ _ _; go_wp2_with fail; exact ⟨rfl, Ext.refl _, rfl, rfl⟩
                · intro w1 hx1; rintro _ rfl; change wpList _ _ _ _ _ _; go_wp2_with fail; exact ⟨rfl, Ext.refl _, rfl, rfl⟩
                · intro w1 hx1; rintro _ rfl; change wpList _ _ _ _ _ _; have m0 := hx1.cell f0; go_wp2_with fail; exact ⟨rfl, Ext.refl _, rfl, rfl⟩
                · intro w1 hx1; rintro _ rfl; rintro _ rfl; change wpList _ _ _ _ _ _; go_wp2_with fail; exact ⟨rfl, Ext.refl _, rfl, rfl⟩
                · intro w1 hx1; rintro _ rfl; change wpList _ _ _ _ _ _; exact ob_move rfl rfl rfl rfl rfl
                · intro w1 hx1; rintro _ rfl; change wpList _ _ _ _ _ _; exact ob_move rfl rfl rfl rfl rfl
                · intro w1 hx1; rintro _ rfl; change wpList _ _ _ _ _ _; exact ob_move rfl rfl rfl rfl rfl
                · intro w1 hx1; rintro _ rfl; rintro _ rfl; rintro _ rfl; change wpList _ _ _ _ _ _; go_wp2_with fail; exact ⟨rfl, Ext.refl _, rfl, rfl⟩
                · intro w1 hx1; rintro _ rfl; rintro _ rfl; change wpList _ _ _ _ _ _; go_wp2_with fail; exact ⟨rfl, Ext.refl _, rfl, rfl⟩
                · intro w1 hx1; rintro _ rfl; rintro _ rfl; change wpList _ _ _ _ _ _; have m0 := hx1.cell g0; go_wp2_with fail; exact ⟨rfl, Ext.refl _, rfl, rfl⟩
                · intro w1 hx1; rintro _ rfl; change wpList _ _ _ _ _ _; exact ob_move rfl rfl rfl rfl rfl
                · intro w1 hx1; rintro _ rfl; change wpList _ _ _ _ _ _; exact ob_move rfl rfl rfl rfl rfl
                · intro w1 hx1; rintro _ rfl; rintro _ rfl; rintro _ rfl; change wpList _ _ _ _ _ _; go_wp2_with fail; exact ⟨rfl, Ext.refl _, rfl, rfl⟩
                · intro w1 hx1; rintro _ rfl; rintro _ rfl; change wpList _ _ _ _ _ _; go_wp2_with fail; exact ⟨rfl, Ext.refl _, rfl, rfl⟩
                · intro w1 hx1; rintro _ rfl; rintro _ rfl; change wpList _ _ _ _ _ _; have m0 := hx1.cell f0; go_wp2_with fail; exact ⟨rfl, Ext.refl _, rfl, rfl⟩
                · intro w1 hx1; rintro _ rfl; rintro _ rfl; rintro _ rfl; change wpList _ _ _ _ _ _; go_wp2_with fail; exact ⟨rfl, Ext.refl _, rfl, rfl⟩
                · intro w1 hx1; rintro _ rfl; rintro _ rfl; change wpList _ _ _ _ _ _; exact ob_move rfl rfl rfl rfl rfl
                · intro w1 hx1; rintro _ rfl; change wpList _ _ _ _ _ _; exact ob_move rfl rfl rfl rfl rfl
                · intro w1 hx1; rintro _ rfl; change wpList _ _ _ _ _ _; exact ob_move rfl rfl rfl rfl rfl
                · intro w1 hx1; rintro _ rfl; rintro _ rfl; rintro _ rfl; change wpList _ _ _ _ _ _; go_wp2_with fail; exact ⟨rfl, Ext.refl _, rfl, rfl⟩
                · intro w1 hx1; rintro _ rfl; rintro _ rfl; rintro _ rfl; change wpList _ _ _ _ _ _; exact ob_pick rfl rfl rfl rfl rfl rfl
                · intro w1 hx1; rintro _ rfl; rintro _ rfl; change wpList _ _ _ _ _ _; exact ob_pick rfl rfl rfl rfl rfl rfl
                · intro w1 hx1; rintro _ rfl; change wpList _ _ _ _ _ _; exact ob_assign rfl rfl rfl rfl rfl
              · intro w1 hx1; rintro _ rfl; rintro _ rfl; rintro _ rfl; rintro _ rfl; rintro _ rfl; rintro _ rfl; rintro _ rfl; rintro _ rfl; rintro _ rfl; rintro _ rfl; rintro _ rfl; rintro _ rfl; rintro _ rfl; rintro _ rfl; rintro _ rfl; rintro _ rfl; rintro _ rfl; rintro _ rfl; rintro _ rfl; rintro _ rfl; rintro _ rfl; rintro _ rfl; rintro _ rfl; rintro _ rfl; rintro _ rfl; rintro _ rfl; rintro _ rfl; rintro _ rfl; rintro _ rfl; rintro _ rfl; refine depsThen_nil ?_; dsimp only; simp only [Act.put, List.setIfInBounds_toArray, List.set_cons_zero, List.set_cons_succ]
                have hx := hx.trans hx1
                have g2 := hx1.cell g2
                have f2 := hx1.cell f2
                clear hx1 g0 f0
                have hv : hitR ks (ni, key) i k = false := by rw [HH.out.out]; simp [h3]
                have HNO : Hid (∀ j, j < k + 1 → hitR ks (ni, key) i j = false) := no_succ hno.out hv
                clear hv hno
                go_upto_region 7 with fail
                refine wp_region_facts [Fact.eq (.bool false),
                    Fact.eq (.bool false),
                    Fact.eq undef,
                    Fact.eq undef,
                    Fact.eq undef,
                    Fact.eq undef,
                    Fact.eq undef,
                    Fact.eq undef,
                    Fact.eq undef,
                    Fact.eq undef,
                    Fact.eq undef,
                    Fact.eq undef,
                    Fact.eq undef,
                    Fact.eq undef,
                    Fact.eq undef,
                    Fact.eq (.bool false)]
                  [[], [(0, 49)], [(1, 50)], [(1, 50)], [(2, 51), (3, 52), (1, 50)], [(4, 53), (1, 50)], [(5, 54), (1, 50)], [(6, 55), (1, 50)], [(1, 50)], [(1, 50)], [(8, 57), (9, 58), (1, 50)], [(10, 59), (1, 50)], [(11, 60), (1, 50)], [(12, 61), (1, 50)], [(7, 56), (13, 62), (1, 50)], [(1, 50), (14, 63)]]
                  [(0, 49), (1, 50), (2, 51), (3, 52), (4, 53), (5, 54), (6, 55), (7, 56), (8, 57), (9, 58), (10, 59), (11, 60), (12, 61), (13, 62), (14, 63), (15, 64)] (by kernel_rfl) (by kernel_rfl) ?_ ?_
                · refine ⟨?_, ?_, ?_, ?_, ?_, ?_, ?_, ?_, ?_, ?_, ?_, ?_, ?_, ?_, ?_, ?_, trivial⟩
                  · intro w1 hx1; change wpList _ _ _ _ _ _; exact ob_move rfl rfl rfl rfl rfl
                  · intro w1 hx1; rintro _ rfl; change wpList _ _ _ _ _ _; exact ob_move rfl rfl rfl rfl rfl
                  · intro w1 hx1; rintro _ rfl; change wpList _ _ _ _ _ _; exact ob_skip rfl rfl rfl rfl
                  · intro w1 hx1; rintro _ rfl; change wpList _ _ _ _ _ _; exact ob_skip rfl rfl rfl rfl
                  · intro w1 hx1; rintro _ rfl; rintro _ rfl; rintro _ rfl; change wpList _ _ _ _ _ _; exact ob_skip rfl rfl rfl rfl
                  · intro w1 hx1; rintro _ rfl; rintro _ rfl; change wpList _ _ _ _ _ _; exact ob_skip rfl rfl rfl rfl
                  · intro w1 hx1; rintro _ rfl; rintro _ rfl; change wpList _ _ _ _ _ _; exact ob_skip rfl rfl rfl rfl
                  · intro w1 hx1; rintro _ rfl; rintro _ rfl; change wpList _ _ _ _ _ _; exact ob_skip rfl rfl rfl rfl
                  · intro w1 hx1; rintro _ rfl; change wpList _ _ _ _ _ _; exact ob_skip rfl rfl rfl rfl
                  · intro w1 hx1; rintro _ rfl; change wpList _ _ _ _ _ _; exact ob_skip rfl rfl rfl rfl
                  · intro w1 hx1; rintro _ rfl; rintro _ rfl; rintro _ rfl; change wpList _ _ _ _ _ _; exact ob_skip rfl rfl rfl rfl
                  · intro w1 hx1; rintro _ rfl; rintro _ rfl; change wpList _ _ _ _ _ _; exact ob_skip rfl rfl rfl rfl
                  · intro w1 hx1; rintro _ rfl; rintro _ rfl; change wpList _ _ _ _ _ _; exact ob_skip rfl rfl rfl rfl
                  · intro w1 hx1; rintro _ rfl; rintro _ rfl; change wpList _ _ _ _ _ _; exact ob_skip rfl rfl rfl rfl
                  · intro w1 hx1; rintro _ rfl; rintro _ rfl; rintro _ rfl; change wpList _ _ _ _ _ _; exact ob_skip rfl rfl rfl rfl
                  · intro w1 hx1; rintro _ rfl; rintro _ rfl; change wpList _ _ _ _ _ _; exact ob_pick rfl rfl rfl rfl rfl rfl
                · intro w1 hx1; rintro _ rfl; rintro _ rfl; rintro _ rfl; rintro _ rfl; rintro _ rfl; rintro _ rfl; rintro _ rfl; rintro _ rfl; rintro _ rfl; rintro _ rfl; rintro _ rfl; rintro _ rfl; rintro _ rfl; rintro _ rfl; rintro _ rfl; rintro _ rfl; refine depsThen_nil ?_; dsimp only; simp only [Act.put, List.setIfInBounds_toArray, List.set_cons_zero, List.set_cons_succ]
                  have HX := Lib.hid (hx.trans hx1)
                  clear hx1 hx f2 g2
                  go_wp2_with fail
                  go_roundw
                  case rel => exact ⟨k + 1, hlt, by go_num, HNO, HX.out⟩
                  case measure => simp [intOf]; omega
          · have hb2 : ((nk : Int) == (ni : Int)) = false := beq_eq_false_iff_ne.2 (by omega)
            have hb4 : (nk == ni) = false := beq_eq_false_iff_ne.2 (by omega)
            refine wp_region_facts [Fact.eq (.slice (some ⟨B, o, none⟩) N cap),
                Fact.eq (.int .i64 k),
                Fact.eq (.pointer (some ⟨B, o + k * 4, none⟩)),
                Fact.eq (.pointer (some ⟨B, o + k * 4, none⟩)),
                Fact.eq (.int .u64 nk),
                Fact.eq (.slice (some ⟨B, o, none⟩) N cap),
                Fact.eq (.int .i64 i),
                Fact.eq (.pointer (some ⟨B, o + i * 4, none⟩)),
                Fact.eq (.pointer (some ⟨B, o + i * 4, none⟩)),
                Fact.eq (.int .u64 ni),
                Fact.eq (.bool false),
                Fact.eq (.bool false),
                Fact.eq (.slice (some ⟨B, o, none⟩) N cap),
                Fact.eq (.int .i64 k),
                Fact.eq (.pointer (some ⟨B, o + k * 4, none⟩)),
                Fact.eq (.pointer (some ⟨B, o + k * 4, none⟩)),
                Fact.eq (.int .u64 nk),
                Fact.eq (.slice (some ⟨B, o, none⟩) N cap),
                Fact.eq (.int .i64 i),
                Fact.eq (.pointer (some ⟨B, o + i * 4, none⟩)),
                Fact.eq (.pointer (some ⟨B, o + i * 4, none⟩)),
                Fact.eq (.int .u64 ni),
                Fact.eq (.bool false),
                Fact.eq (.bool false),
                Fact.eq undef,
                Fact.eq undef,
                Fact.eq undef,
                Fact.eq (.bool false),
                Fact.eq (.bool false),
                Fact.eq (.bool false)]
              [[], [], [(0, 20), (1, 21)], [(2, 22)], [(3, 23)], [], [], [(5, 25), (6, 26)], [(7, 27)], [(8, 28)], [(4, 24), (9, 29)], [(10, 30)], [(11, 31)], [(11, 31)], [(12, 32), (13, 33), (11, 31)], [(14, 34), (11, 31)], [(15, 35), (11, 31)], [(11, 31)], [(11, 31)], [(17, 37), (18, 38), (11, 31)], [(19, 39), (11, 31)], [(20, 40), (11, 31)], [(16, 36), (21, 41), (11, 31)], [(22, 42), (11, 31)], [(23, 43)], [(23, 43)], [(24, 44), (25, 45), (23, 43)], [(23, 43), (26, 46), (11, 31)], [(11, 31), (27, 47)], [(28, 48)]]
              [(0, 20), (1, 21), (2, 22), (3, 23), (4, 24), (5, 25), (6, 26), (7, 27), (8, 28), (9, 29), (10, 30), (11, 31), (12, 32), (13, 33), (14, 34), (15, 35), (16, 36), (17, 37), (18, 38), (19, 39), (20, 40), (21, 41), (22, 42), (23, 43), (24, 44), (25, 45), (26, 46), (27, 47), (28, 48), (29, 6)] (by kernel_rfl) (by kernel_rfl) ?_ ?_
            · refine ⟨?_, ?_, ?_, ?_, ?_, ?_, ?_, ?_, ?_, ?_, ?_, ?_, ?_, ?_, ?_, ?_, ?_, ?_, ?_, ?_, ?_, ?_, ?_, ?_, ?_, ?_, ?_, ?_, ?_, ?_, trivial⟩
              · intro w1 hx1; change wpList _ _ _ _ _ _; exact ob_move rfl rfl rfl rfl rfl
              · intro w1 hx1; change wpList _ _ _ _ _ _; exact ob_move rfl rfl rfl rfl rfl
              · intro w1 hx1; rintro _ rfl; rintro _ rfl; change wpList _ _ _ _ _ _; go_wp2_with fail; exact ⟨rfl, Ext.refl _, rfl, rfl⟩
              · intro w1 hx1; rintro _ rfl; change wpList _ _ _ _ _ _; go_wp2_with fail; exact ⟨rfl, Ext.refl _, rfl, rfl⟩
              · intro w1 hx1; rintro _ rfl; change wpList _ _ _ _ _ _; have m0 := hx1.cell g0; go_wp2_with fail; exact ⟨rfl, Ext.refl _, rfl, rfl⟩
              · intro w1 hx1; change wpList _ _ _ _ _ _; exact ob_move rfl rfl rfl rfl rfl
              · intro w1 hx1; change wpList _ _ _ _ _ _; exact ob_move rfl rfl rfl rfl rfl
              · intro w1 hx1; rintro _ rfl; rintro _ rfl; change wpList _ _ _ _ _ _; go_wp2_with fail; exact ⟨rfl, Ext.refl _, rfl, rfl⟩
              · intro w1 hx1; rintro _ rfl; change wpList _ _ _ _ _ _; go_wp2_with fail; exact ⟨rfl, Ext.refl _, rfl, rfl⟩
              · intro w1 hx1; rintro _ rfl; change wpList _ _ _ _ _ _; have m0 := hx1.cell f0; go_wp2_with fail; exact ⟨rfl, Ext.refl _, rfl, rfl⟩
              · intro w1 hx1; rintro _ rfl; rintro _ rfl; change wpList _ _ _ _ _ _; go_wp2_with fail; exact ⟨rfl, Ext.refl _, rfl, rfl⟩
              · intro w1 hx1; rintro _ rfl; change wpList _ _ _ _ _ _; exact ob_move rfl rfl rfl rfl rfl
              · intro w1 hx1; rintro _ rfl; change wpList _ _ _ _ _ _; exact ob_move rfl rfl rfl rfl rfl
              · intro w1 hx1; rintro _ rfl; change wpList _ _ _ _ _ _; exact ob_move rfl rfl rfl rfl rfl
              · intro w1 hx1; rintro _ rfl; rintro _ rfl; rintro _ rfl; change wpList _ _ _ _ _ _; go_wp2_with fail; exact ⟨rfl, Ext.refl _, rfl, rfl⟩
              · intro w1 hx1; rintro _ rfl; rintro _ rfl; change wpList _ _ _ _ _ _; go_wp2_with fail; exact ⟨rfl, Ext.refl _, rfl, rfl⟩
              · intro w1 hx1; rintro _ rfl; rintro _ rfl; change wpList _ _ _ _ _ _; have m0 := hx1.cell g0; go_wp2_with fail; exact ⟨rfl, Ext.refl _, rfl, rfl⟩
              · intro w1 hx1; rintro _ rfl; change wpList _ _ _ _ _ _; exact ob_move rfl rfl rfl rfl rfl
              · intro w1 hx1; rintro _ rfl; change wpList _ _ _ _ _ _; exact ob_move rfl rfl rfl rfl rfl
              · intro w1 hx1; rintro _ rfl; rintro _ rfl; rintro _ rfl; change wpList _ _ _ _ _ _; go_wp2_with fail; exact ⟨rfl, Ext.refl _, rfl, rfl⟩
              · intro w1 hx1; rintro _ rfl; rintro _ rfl; change wpList _ _ _ _ _ _; go_wp2_with fail; exact ⟨rfl, Ext.refl _, rfl, rfl⟩
              · intro w1 hx1; rintro _ rfl; rintro _ rfl; change wpList _ _ _ _ _ _; have m0 := hx1.cell f0; go_wp2_with fail; exact ⟨rfl, Ext.refl _, rfl, rfl⟩
              · intro w1 hx1; rintro _ rfl; rintro _ rfl; rintro _ rfl; change wpList _ _ _ _ _ _; go_wp2_with fail; exact ⟨rfl, Ext.refl _, rfl, rfl⟩
              · intro w1 hx1; rintro _ rfl; rintro _ rfl; change wpList _ _ _ _ _ _; exact ob_move rfl rfl rfl rfl rfl
              · intro w1 hx1; rintro _ rfl; change wpList _ _ _ _ _ _; exact ob_skip rfl rfl rfl rfl
              · intro w1 hx1; rintro _ rfl; change wpList _ _ _ _ _ _; exact ob_skip rfl rfl rfl rfl
              · intro w1 hx1; rintro _ rfl; rintro _ rfl; rintro _ rfl; change wpList _ _ _ _ _ _; exact ob_skip rfl rfl rfl rfl
              · intro w1 hx1; rintro _ rfl; rintro _ rfl; rintro _ rfl; change wpList _ _ _ _ _ _; exact ob_pick rfl rfl rfl rfl rfl rfl
              · intro w1 hx1; rintro _ rfl; rintro _ rfl; change wpList _ _ _ _ _ _; exact ob_pick rfl rfl rfl rfl rfl rfl
              · intro w1 hx1; rintro _ rfl; change wpList _ _ _ _ _ _; exact ob_assign rfl rfl rfl rfl rfl
            · intro w1 hx1; rintro _ rfl; rintro _ rfl; rintro _ rfl; rintro _ rfl; rintro _ rfl; rintro _ rfl; rintro _ rfl; rintro _ rfl; rintro _ rfl; rintro _ rfl; rintro _ rfl; rintro _ rfl; rintro _ rfl; rintro _ rfl; rintro _ rfl; rintro _ rfl; rintro _ rfl; rintro _ rfl; rintro _ rfl; rintro _ rfl; rintro _ rfl; rintro _ rfl; rintro _ rfl; rintro _ rfl; rintro _ rfl; rintro _ rfl; rintro _ rfl; rintro _ rfl; rintro _ rfl; rintro _ rfl; refine depsThen_nil ?_; dsimp only; simp only [Act.put, List.setIfInBounds_toArray, List.set_cons_zero, List.set_cons_succ]
              have hx := hx.trans hx1
              have g2 := hx1.cell g2
              have f2 := hx1.cell f2
              clear hx1 g0 f0
              have hv : hitR ks (ni, key) i k = false := by rw [HH.out.out]; simp [h1, h2]
              have HNO : Hid (∀ j, j < k + 1 → hitR ks (ni, key) i j = false) := no_succ hno.out hv
              clear hv hno
              go_upto_region 7 with fail
              refine wp_region_facts [Fact.eq (.bool false),
                  Fact.eq (.bool false),
                  Fact.eq undef,
                  Fact.eq undef,
                  Fact.eq undef,
                  Fact.eq undef,
                  Fact.eq undef,
                  Fact.eq undef,
                  Fact.eq undef,
                  Fact.eq undef,
                  Fact.eq undef,
                  Fact.eq undef,
                  Fact.eq undef,
                  Fact.eq undef,
                  Fact.eq undef,
                  Fact.eq (.bool false)]
                [[], [(0, 49)], [(1, 50)], [(1, 50)], [(2, 51), (3, 52), (1, 50)], [(4, 53), (1, 50)], [(5, 54), (1, 50)], [(6, 55), (1, 50)], [(1, 50)], [(1, 50)], [(8, 57), (9, 58), (1, 50)], [(10, 59), (1, 50)], [(11, 60), (1, 50)], [(12, 61), (1, 50)], [(7, 56), (13, 62), (1, 50)], [(1, 50), (14, 63)]]
                [(0, 49), (1, 50), (2, 51), (3, 52), (4, 53), (5, 54), (6, 55), (7, 56), (8, 57), (9, 58), (10, 59), (11, 60), (12, 61), (13, 62), (14, 63), (15, 64)] (by kernel_rfl) (by kernel_rfl) ?_ ?_
              · refine ⟨?_, ?_, ?_, ?_, ?_, ?_, ?_, ?_, ?_, ?_, ?_, ?_, ?_, ?_, ?_, ?_, trivial⟩
                · intro w1 hx1; change wpList _ _ _ _ _ _; exact ob_move rfl rfl rfl rfl rfl
                · intro w1 hx1; rintro _ rfl; change wpList _ _ _ _ _ _; exact ob_move rfl rfl rfl rfl rfl
                · intro w1 hx1; rintro _ rfl; change wpList _ _ _ _ _ _; exact ob_skip rfl rfl rfl rfl
                · intro w1 hx1; rintro _ rfl; change wpList _ _ _ _ _ _; exact ob_skip rfl rfl rfl rfl
                · intro w1 hx1; rintro _ rfl; rintro _ rfl; rintro _ rfl; change wpList _ _ _ _ _ _; exact ob_skip rfl rfl rfl rfl
                · intro w1 hx1; rintro _ rfl; rintro _ rfl; change wpList _ _ _ _ _ _; exact ob_skip rfl rfl rfl rfl
                · intro w1 hx1; rintro _ rfl; rintro _ rfl; change wpList _ _ _ _ _ _; exact ob_skip rfl rfl rfl rfl
                · intro w1 hx1; rintro _ rfl; rintro _ rfl; change wpList _ _ _ _ _ _; exact ob_skip rfl rfl rfl rfl
                · intro w1 hx1; rintro _ rfl; change wpList _ _ _ _ _ _; exact ob_skip rfl rfl rfl rfl
                · intro w1 hx1; rintro _ rfl; change wpList _ _ _ _ _ _; exact ob_skip rfl rfl rfl rfl
                · intro w1 hx1; rintro _ rfl; rintro _ rfl; rintro _ rfl; change wpList _ _ _ _ _ _; exact ob_skip rfl rfl rfl rfl
                · intro w1 hx1; rintro _ rfl; rintro _ rfl; change wpList _ _ _ _ _ _; exact ob_skip rfl rfl rfl rfl
                · intro w1 hx1; rintro _ rfl; rintro _ rfl; change wpList _ _ _ _ _ _; exact ob_skip rfl rfl rfl rfl
                · intro w1 hx1; rintro _ rfl; rintro _ rfl; change wpList _ _ _ _ _ _; exact ob_skip rfl rfl rfl rfl
                · intro w1 hx1; rintro _ rfl; rintro _ rfl; rintro _ rfl; change wpList _ _ _ _ _ _; exact ob_skip rfl rfl rfl rfl
                · intro w1 hx1; rintro _ rfl; rintro _ rfl; change wpList _ _ _ _ _ _; exact ob_pick rfl rfl rfl rfl rfl rfl
              · intro w1 hx1; rintro _ rfl; rintro _ rfl; rintro _ rfl; rintro _ rfl; rintro _ rfl; rintro _ rfl; rintro _ rfl; rintro _ rfl; rintro _ rfl; rintro _ rfl; rintro _ rfl; rintro _ rfl; rintro _ rfl; rintro _ rfl; rintro _ rfl; rintro _ rfl; refine depsThen_nil ?_; dsimp only; simp only [Act.put, List.setIfInBounds_toArray, List.set_cons_zero, List.set_cons_succ]
                have HX := Lib.hid (hx.trans hx1)
                clear hx1 hx f2 g2
                go_wp2_with fail
                go_roundw
                case rel => exact ⟨k + 1, hlt, by go_num, HNO, HX.out⟩
                case measure => simp [intOf]; omega
      · obtain rfl : k = N := by omega
        have hI : decide ((k : Int) < (k : Int)) = false := decide_eq_false (by omega)
        have HNO := Lib.hid (any_range_no hno.out)
        clear hno
        go_wp2_with fail
        go_ret
        exact ⟨by rw [HG.out, HNO.out, Bool.and_false]; rfl, hx⟩
end Go.Proofs.Ytlgopjfnknjgjaa