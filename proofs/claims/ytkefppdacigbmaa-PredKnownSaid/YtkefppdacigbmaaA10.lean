/- The reference's Matches. -/
import Derived.Test.YtkefppdacigbmaaA9
import Derived.Deep.CutBlock
namespace Go.Proofs.Ytkefppdacigbmaa
open Go.RowKit

theorem find_take {l : List (List UInt8 × V)} {name : List UInt8} {j : Nat} (h : ∀ x ∈ l.take j, x.1 ≠ name) : getE l name = getE (l.drop j) name := by
  unfold getE
  conv => lhs; rw [← List.take_append_drop j l]
  rw [List.find?_append, List.find?_eq_none.2 (fun x hx => by simpa using h x hx)]
  rfl
theorem asks_none {l : List (List UInt8 × V)} {c : C} (h : ∀ x ∈ l.take l.length, x.1 ≠ c.name) : asksE l c = false := by
  unfold asksE
  rw [find_take h, List.drop_length]; rfl
theorem asks_some {l : List (List UInt8 × V)} {c : C} {j : Nat} (hj : j < l.length) (h : ∀ x ∈ l.take j, x.1 ≠ c.name) (he : l[j].1 = c.name) : asksE l c = holdsC c l[j].2 := by
  unfold asksE
  rw [find_take h, List.drop_eq_getElem_cons hj]
  unfold getE
  rw [List.find?_cons_of_pos (by simpa using he)]; rfl

set_option maxRecDepth 100000 in
set_option maxHeartbeats 8000000 in
theorem rmatches_any (w : World) (v : Value) (p : List C) (key : List UInt8) (va : Value) (l : List (List UInt8 × V)) (hp : PredR w v p) (hl : AttrR w va l) :
    Calls Try.prog 17 #[v, .agg #[.string (strOf key), va]] w fun e w' => e = .returned (.bool (matchP p l)) ∧ Ext w w' := by
  obtain ⟨aa, ca, rfl, hca, hma⟩ := Row.shape hl
  obtain ⟨ap, cp, rfl, hcp, hmp⟩ := hp.shape
  unfold maxLen at hma hmp
  have hx0 : Ext w (w.alloc (.cells #[.string (strOf key), .slice aa l.length ca] 26)) := (Ext.refl w).alloc _
  have hE : (w.alloc (.cells #[.string (strOf key), .slice aa l.length ca] 26)).heap[w.heap.size]? = some (.cells #[.string (strOf key), .slice aa l.length ca] 26 (0, 0)) := heap_alloc_new _ _
  have hE1 := cell_of_row _ _ 1 _ _ _ hE
  have hl0 := hl.ext hx0
  have hp0 := hp.ext hx0
  clear hE hl hp
  go_enter Try.func17, Try.ntmps17
  go_wp2_with fail
  generalize w.alloc (.cells #[.string (strOf key), .slice aa l.length ca] 26) = wa at *
  go_loopw [5] (fun i wr => ∃ k : Nat, k ≤ p.length ∧ i = .int .i64 k ∧ Hid (∀ c ∈ p.take k, asksE l c = true) ∧ Ext wa wr) (fun i _ => p.length - (intOf i).toNat)
  case atStart => exact ⟨0, Nat.zero_le _, rfl, (by show ∀ x ∈ p.take 0, _; simp), Ext.refl _⟩
  case round =>
    obtain ⟨k, hk, rfl, hall, hx⟩ := hrel
    by_cases hlt : k < p.length
    · have hI : decide ((k : Int) < (p.length : Int)) = true := decide_eq_true (by omega)
      have hno : asksE l p[k] = false → matchP p l = false := fun e => by
        unfold matchP
        exact List.all_eq_false.2 ⟨p[k], List.getElem_mem hlt, by rw [e]; decide⟩
      have hyes : asksE l p[k] = true → ∀ c ∈ p.take (k + 1), asksE l c = true := fun e c hc => by
        rw [List.take_succ_eq_append_getElem hlt] at hc
        rcases List.mem_append.1 hc with hc | hc
        · exact hall.out c hc
        · rw [List.mem_singleton.1 hc]; exact e
      have hpk := (hp0.ext hx).at hlt
      obtain ⟨Bp, op, sa, sc, rfl, g0, g1, g2, g3, g4, g5, g6, hgs⟩ := hpk
      generalize p[k] = c at *
      have HNO := Lib.hid hno
      have HYES := Lib.hid hyes
      clear hno hyes
      go_upto_block 2 with fail
      go_cut [6] from 13 to 33 (fun v6 wx => ∃ j : Nat, j ≤ l.length ∧ v6 = .int .i64 j ∧ Hid (∀ x ∈ l.take j, x.1 ≠ c.name) ∧ Hid (∀ h : j < l.length, l[j].1 = c.name) ∧ Ext wr wx)
      case first =>
        go_wp2_with fail
        go_loopw [6] (fun i wx => ∃ j : Nat, j ≤ l.length ∧ i = .int .i64 j ∧ Hid (∀ x ∈ l.take j, x.1 ≠ c.name) ∧ Ext wr wx) (fun i _ => l.length - (intOf i).toNat)
        case atStart => exact ⟨0, Nat.zero_le _, rfl, (by show ∀ x ∈ l.take 0, _; simp), Ext.refl _⟩
        case round =>
          rename_i wy _
          obtain ⟨j, hj, rfl, hbef, hy⟩ := hrel
          have e1 := (hx.trans hy).cell hE1
          by_cases hjl : j < l.length
          · have hI2 : decide ((j : Int) < (l.length : Int)) = true := decide_eq_true (by omega)
            obtain ⟨Ba, oa, rfl, f0, f1, f2, f3, f4⟩ := (hl0.ext (hx.trans hy)).at hjl
            have g0 := hy.cell g0
            by_cases hn : l[j].1 = c.name
            · have hd : (l[j].1 == c.name) = true := beq_iff_eq.2 hn
              have hd2 : (l[j].1 != c.name) = false := by rw [bne, hd]; rfl
              have hat : Hid (∀ h : j < l.length, l[j].1 = c.name) := fun _ => hn
              generalize l[j].1 = nm at *
              clear hn
              go_upto_region 5 with fail
              go_quiet (fail)
              go_wp2_with fail
              go_meet
              exact ⟨j, hj, rfl, hbef, hat, hy.drewN _⟩
            · have hd : (l[j].1 == c.name) = false := beq_eq_false_iff_ne.2 hn
              have hd2 : (l[j].1 != c.name) = true := by rw [bne, hd]; rfl
              have hnx : Hid (∀ x ∈ l.take (j + 1), x.1 ≠ c.name) := fun x hx => by
                rw [List.take_succ_eq_append_getElem hjl] at hx
                rcases List.mem_append.1 hx with hx | hx
                · exact hbef.out x hx
                · rw [List.mem_singleton.1 hx]; exact hn
              generalize l[j].1 = nm at *
              clear hn
              go_upto_region 5 with fail
              go_quiet (fail)
              go_wp2_with fail
              go_roundw
              case rel => exact ⟨j + 1, hjl, by go_num, hnx, hy.drewN _⟩
              case measure => simp [intOf]; omega
          · obtain rfl : j = l.length := by omega
            have hI2 : decide ((l.length : Int) < (l.length : Int)) = false := decide_eq_false (by omega)
            go_upto_region 5 with fail
            go_quiet (fail)
            go_wp2_with fail
            go_meet
            exact ⟨l.length, hj, rfl, hbef, fun h => absurd h (Nat.lt_irrefl _), hy.drewN _⟩
      case rest =>
        obtain ⟨j, hj, rfl, hbef, hat, hy⟩ := hcut
        have e1 := (hx.trans hy).cell hE1
        by_cases hjl : j < l.length
        · have hI2 : ((j : Int) == (l.length : Int)) = false := beq_eq_false_iff_ne.2 (by omega)
          obtain ⟨Ba, oa, rfl, f0, f1, f2, f3, f4⟩ := (hl0.ext (hx.trans hy)).at hjl
          have g0 := hy.cell g0
          have g1 := hy.cell g1
          have g2 := hy.cell g2
          have g3 := hy.cell g3
          have g4 := hy.cell g4
          have g5 := hy.cell g5
          have g6 := hy.cell g6
          have hgs := hgs.ext hy
          have hask : Hid (asksE l c = holdsC c l[j].2) := asks_some hjl hbef.out (hat.out hjl)
          generalize l[j] = a at *
          generalize hH : holdsC c a.2 = H at *
          have HH := Lib.hid hH
          clear hH
          go_upto_region 7 with fail
          refine wp_region_facts [Fact.eq (.int .i64 j),
              Fact.eq (.pointer (some ⟨w.heap.size, 1, none⟩)),
              Fact.eq (.slice (some ⟨Ba, oa, none⟩) l.length ca),
              Fact.eq (.int .i64 l.length),
              Fact.eq (.bool false),
              Fact.eq (.bool false),
              Fact.eq (.slice (some ⟨Bp, op, none⟩) p.length cp),
              Fact.eq (.int .i64 k),
              Fact.eq (.pointer (some ⟨Bp, op + k * 7, none⟩)),
              Fact.eq (.agg #[.string (strOf c.name), .int .i64 c.op, .int .i64 c.v.k, .int .i64 c.v.n, .string (strOf c.v.s), .bool c.v.b, .slice sa c.set.length sc]),
              Fact.eq (.pointer (some ⟨w.heap.size, 1, none⟩)),
              Fact.eq (.slice (some ⟨Ba, oa, none⟩) l.length ca),
              Fact.eq (.int .i64 j),
              Fact.eq (.pointer (some ⟨Ba, oa + j * 5, none⟩)),
              Fact.eq (.pointer (some ⟨Ba, oa + j * 5 + 1, none⟩)),
              Fact.eq (.agg #[.int .i64 a.2.k, .int .i64 a.2.n, .string (strOf a.2.s), .bool a.2.b]),
              Fact.eq (.bool H),
              Fact.eq (.bool (!H)),
              Fact.eq (.bool (!H))]
            [[], [], [(1, 35)], [(2, 36)], [(0, 34), (3, 37)], [(4, 38)], [(5, 39)], [(5, 39)], [(6, 40), (7, 41), (5, 39)], [(8, 42), (5, 39)], [(5, 39)], [(10, 44), (5, 39)], [(5, 39)], [(11, 45), (12, 46), (5, 39)], [(13, 47), (5, 39)], [(14, 48), (5, 39)], [(9, 43), (15, 49), (5, 39)], [(16, 50), (5, 39)], [(5, 39), (17, 51)]]
            [(0, 34), (1, 35), (2, 36), (3, 37), (4, 38), (5, 39), (6, 40), (7, 41), (8, 42), (9, 43), (10, 44), (11, 45), (12, 46), (13, 47), (14, 48), (15, 49), (16, 50), (17, 51), (18, 52)] (by kernel_rfl) (by kernel_rfl) ?_ ?_
          · refine ⟨?_, ?_, ?_, ?_, ?_, ?_, ?_, ?_, ?_, ?_, ?_, ?_, ?_, ?_, ?_, ?_, ?_, ?_, ?_, trivial⟩
            · intro w1 hx1; change wpList _ _ _ _ _ _; exact ob_move rfl rfl rfl rfl rfl
            · intro w1 hx1; change wpList _ _ _ _ _ _; go_wp2_with fail; exact ⟨rfl, Ext.refl _, rfl, rfl⟩
            · intro w1 hx1; rintro _ rfl; change wpList _ _ _ _ _ _; have m := hx1.cell e1; go_wp2_with fail; exact ⟨rfl, Ext.refl _, rfl, rfl⟩
            · intro w1 hx1; rintro _ rfl; change wpList _ _ _ _ _ _; go_wp2_with fail; exact ⟨rfl, Ext.refl _, rfl, rfl⟩
            · intro w1 hx1; rintro _ rfl; rintro _ rfl; change wpList _ _ _ _ _ _; go_wp2_with fail; exact ⟨rfl, Ext.refl _, rfl, rfl⟩
            · intro w1 hx1; rintro _ rfl; change wpList _ _ _ _ _ _; exact ob_move rfl rfl rfl rfl rfl
            · intro w1 hx1; rintro _ rfl; change wpList _ _ _ _ _ _; exact ob_move rfl rfl rfl rfl rfl
            · intro w1 hx1; rintro _ rfl; change wpList _ _ _ _ _ _; exact ob_move rfl rfl rfl rfl rfl
            · intro w1 hx1; rintro _ rfl; rintro _ rfl; rintro _ rfl; change wpList _ _ _ _ _ _; go_wp2_with fail; exact ⟨rfl, Ext.refl _, rfl, rfl⟩
            · intro w1 hx1; rintro _ rfl; rintro _ rfl; change wpList _ _ _ _ _ _; have m0 := hx1.cell g0; have m1 := hx1.cell g1; have m2 := hx1.cell g2; have m3 := hx1.cell g3; have m4 := hx1.cell g4; have m5 := hx1.cell g5; have m6 := hx1.cell g6; go_wp2_with fail; exact ⟨rfl, Ext.refl _, rfl, rfl⟩
            · intro w1 hx1; rintro _ rfl; change wpList _ _ _ _ _ _; go_wp2_with fail; exact ⟨rfl, Ext.refl _, rfl, rfl⟩
            · intro w1 hx1; rintro _ rfl; rintro _ rfl; change wpList _ _ _ _ _ _; have m := hx1.cell e1; go_wp2_with fail; exact ⟨rfl, Ext.refl _, rfl, rfl⟩
            · intro w1 hx1; rintro _ rfl; change wpList _ _ _ _ _ _; exact ob_move rfl rfl rfl rfl rfl
            · intro w1 hx1; rintro _ rfl; rintro _ rfl; rintro _ rfl; change wpList _ _ _ _ _ _; go_wp2_with fail; exact ⟨rfl, Ext.refl _, rfl, rfl⟩
            · intro w1 hx1; rintro _ rfl; rintro _ rfl; change wpList _ _ _ _ _ _; go_wp2_with fail; exact ⟨rfl, Ext.refl _, rfl, rfl⟩
            · intro w1 hx1; rintro _ rfl; rintro _ rfl; change wpList _ _ _ _ _ _; have m1 := hx1.cell f1; have m2 := hx1.cell f2; have m3 := hx1.cell f3; have m4 := hx1.cell f4; go_wp2_with fail; exact ⟨rfl, Ext.refl _, rfl, rfl⟩
            · intro w1 hx1; rintro _ rfl; rintro _ rfl; rintro _ rfl; change wpList _ _ _ _ _ _; go_wp2_with fail; refine (rholds_any w1 c sa sc (hgs.ext hx1) a.2).mono ?_; rw [HH.out]; rintro e w2 ⟨rfl, hx2⟩; go_wp2_with fail; exact ⟨rfl, hx2, rfl, rfl⟩
            · intro w1 hx1; rintro _ rfl; rintro _ rfl; change wpList _ _ _ _ _ _; go_wp2_with fail; exact ⟨rfl, Ext.refl _, rfl, rfl⟩
            · intro w1 hx1; rintro _ rfl; rintro _ rfl; change wpList _ _ _ _ _ _; exact ob_pick rfl rfl rfl rfl rfl rfl
          · intro w1 hx1; rintro _ rfl; rintro _ rfl; rintro _ rfl; rintro _ rfl; rintro _ rfl; rintro _ rfl; rintro _ rfl; rintro _ rfl; rintro _ rfl; rintro _ rfl; rintro _ rfl; rintro _ rfl; rintro _ rfl; rintro _ rfl; rintro _ rfl; rintro _ rfl; rintro _ rfl; rintro _ rfl; rintro _ rfl; refine depsThen_nil ?_; dsimp only; simp only [Act.put, List.setIfInBounds_toArray, List.set_cons_zero, List.set_cons_succ]
            cases H
            · go_wp2_with fail
              go_ret
              exact ⟨by rw [HNO.out hask.out]; rfl, hx0.trans (hx.trans (hy.trans hx1))⟩
            · go_wp2_with fail
              go_roundw
              case rel => exact ⟨k + 1, hlt, by go_num, HYES.out hask.out, hx.trans (hy.trans hx1)⟩
              case measure => simp [intOf]; omega
        · obtain rfl : j = l.length := by omega
          have hI2 : ((l.length : Int) == (l.length : Int)) = true := beq_self_eq_true _
          have hask : Hid (asksE l c = false) := asks_none hbef.out
          go_upto_region 7 with fail
          go_quiet (fail)
          go_wp2_with fail
          go_ret
          exact ⟨by rw [HNO.out hask.out]; rfl, hx0.trans (hx.trans (hy.drewN _))⟩
    · obtain rfl : k = p.length := by omega
      have hI : decide ((p.length : Int) < (p.length : Int)) = false := decide_eq_false (by omega)
      have hres : Hid (matchP p l = true) := by
        show _ = _
        unfold matchP
        exact List.all_eq_true.2 fun x hx => hall.out x (by rw [List.take_length]; exact hx)
      go_wp2_with fail
      go_ret
      exact ⟨by rw [hres.out]; rfl, hx0.trans hx⟩
end Go.Proofs.Ytkefppdacigbmaa
