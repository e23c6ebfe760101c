/- parted (34): the map of the last places, and the closure. -/
import Derived.Test.YtlgopjfnknjgjaaD2
namespace Go.Proofs.Ytlgopjfnknjgjaa
open Go.RowKit Go.MapKept

set_option maxRecDepth 100000 in
set_option maxHeartbeats 8000000 in
theorem parted_any (w : World) (vl : Value) (us : List IT) (hi : ItemR w vl us) :
    Calls Try.prog 34 #[vl] w fun e w' => ∃ bl bm b E, e = .returned (.func (.func 47) #[] #[.pointer (some ⟨bl, 0, none⟩), .pointer (some ⟨bm, 0, none⟩)]) ∧ w'.heap[bl]? = some (.cells #[vl] 22 (0, 0)) ∧ w'.heap[bm]? = some (.cells #[.map (some b)] 39 (0, 0)) ∧ MapE w' b .string E ∧ MapOf (us.map nkOf) E ∧ Ext w w' := by
  obtain ⟨a, cap, rfl, hc, hmx⟩ := hi.shape
  unfold maxLen at hmx
  have HI := Lib.hid hi
  clear hi
  obtain ⟨hx0, hb0, hb1, hb2⟩ := boxes3 w (.cells #[.slice a us.length cap] 22) (.map #[] 0) (.cells #[.map (some (w.heap.size + 1))] 39)
  have hmk : (Instr.makeMap 39 none).run Try.prog (w.alloc (.cells #[.slice a us.length cap] 22)) = .ok (.map (some (w.heap.size + 1))) ((w.alloc (.cells #[.slice a us.length cap] 22)).alloc (.map #[] 0)) := by
    have := run_makeMap (P := Try.prog) 39 (w.alloc (.cells #[.slice a us.length cap] 22))
    rwa [World.size_alloc] at this
  have hme := (MapE.made (w.alloc (.cells #[.slice a us.length cap] 22)) .string).ext ((Ext.refl _).alloc (.cells #[.map (some (w.heap.size + 1))] 39))
  rw [World.size_alloc] at hme
  have m0 := cell_of_row _ _ 0 _ _ _ hb0
  generalize hN : us.length = N at *
  have H0 := Lib.hid hb0
  have H2 := Lib.hid hb2
  have HM := Lib.hid hme
  have HN := Lib.hid hN
  have HX := Lib.hid hx0
  clear hb0 hb1 hb2 hme hN hx0
  go_enter Try.func34, Try.ntmps34
  go_wp2_with fail
  clear m0 hmk
  generalize ((w.alloc (.cells #[.slice a N cap] 22)).alloc (.map #[] 0)).alloc (.cells #[.map (some (w.heap.size + 1))] 39) = w0 at *
  go_loopw [11] (fun i wr => ∃ k : Nat, k ≤ N ∧ i = .int .i64 k ∧ Hid (∃ E, MapE wr (w.heap.size + 1) .string E ∧ MapOf ((us.take k).map nkOf) E) ∧ Hid (wr.heap[w.heap.size]? = some (.cells #[.slice a N cap] 22 (0, 0))) ∧ Hid (wr.heap[w.heap.size + 1 + 1]? = some (.cells #[.map (some (w.heap.size + 1))] 39 (0, 0))) ∧ Hid (Ext w wr)) (fun i _ => N - (intOf i).toNat)
  case atStart => exact ⟨0, Nat.zero_le _, rfl, ⟨[], HM.out, mapOf_nil⟩, H0, H2, HX⟩
  case round =>
    clear HM H0 H2 HX
    obtain ⟨k, hk, rfl, hst, h0, h2, hx⟩ := hrel
    by_cases hlt : k < N
    · have hI : decide ((k : Int) < (N : Int)) = true := decide_eq_true (by omega)
      have hkl : k < us.length := by rw [HN.out]; exact hlt
      obtain ⟨B, o, rfl, f0, f1, f2, f3⟩ := (HI.out.ext hx.out).at hkl
      obtain ⟨ha, hn, hcc, hh⟩ := HI.out.hs us[k] (List.getElem_mem hkl)
      rw [hh] at f3
      obtain ⟨E, hm, hE⟩ := hst.out
      have hlen : ((us.take k).map nkOf).length = k := by rw [List.length_map, List.length_take]; omega
      have hsn : (us.take (k + 1)).map nkOf = (us.take k).map nkOf ++ [nkOf us[k]] := by rw [List.take_succ_eq_append_getElem hkl, List.map_append]; rfl
      have m0 := cell_of_row _ _ 0 _ _ _ h0.out
      have m2 := cell_of_row _ _ 0 _ _ _ h2.out
      have HSN := Lib.hid hsn
      have HLEN := Lib.hid hlen
      have HE := Lib.hid hE
      have HMM := Lib.hid hm
      clear hsn hlen hh hE hm
      have hnk : nkOf us[k] = (us[k].n, us[k].key) := rfl
      rw [hnk] at HSN
      clear hnk
      generalize us[k] = x at *
      obtain ⟨hxa, hbx⟩ := boxes1 wr (.cells #[.int .u64 x.n, .int .u64 x.t, .string (strOf x.key), .slice ha hn hcc] 33)
      have q2 := cell_of_row _ _ 2 _ _ _ hbx
      have m2' := hxa.cell m2
      have hmx := HMM.out.ext hxa
      have hz : (zeroValue 3).run Try.prog (wr.alloc (.cells #[.int .u64 x.n, .int .u64 x.t, .string (strOf x.key), .slice ha hn hcc] 33)) = .ok (.int .i64 0) (wr.alloc (.cells #[.int .u64 x.n, .int .u64 x.t, .string (strOf x.key), .slice ha hn hcc] 33)) := by kernel_rfl
      have hlk := hmx.look Try.underlying39 Try.underlying9 hz (key := .string (strOf x.key)) trivial
      have HMX := Lib.hid hmx
      clear hmx hz
      rcases HE.out x.key with ⟨g1, g2⟩ | ⟨j, m, n, g1, g2⟩
      · have hlook : (Instr.lookup 39 (.map (some (w.heap.size + 1))) (.string (strOf x.key)) true).run Try.prog (wr.alloc (.cells #[.int .u64 x.n, .int .u64 x.t, .string (strOf x.key), .slice ha hn hcc] 33)) = .ok (.tuple #[.int .i64 0, .bool false]) (wr.alloc (.cells #[.int .u64 x.n, .int .u64 x.t, .string (strOf x.key), .slice ha hn hcc] 33)) := by
          rcases hlk with ⟨_, _, h⟩ | ⟨j, v, h, _⟩
          · exact h
          · exact absurd rfl (g2 _ (List.mem_of_getElem? h))
        have HNEW := Lib.hid (mapOf_new (x := (x.n, x.key)) HE.out g1)
        clear hlk g1
        have G2 := Lib.hid g2
        clear g2
        go_upto_region 6 with fail
        have hx2 := hx.out.trans hxa
        have HX2 := Lib.hid hx2
        have H0 := Lib.hid (block_later h0.out hxa)
        have H2 := Lib.hid (block_later h2.out hxa)
        clear m0 m2 f0 f1 f2 f3 hlook hx2 h0 h2 hx HMM hst hxa hbx
        generalize wr.alloc (.cells #[.int .u64 x.n, .int .u64 x.t, .string (strOf x.key), .slice ha hn hcc] 33) = wa at *
        generalize wr.heap.size = bx at *
        refine wp_region_facts [Fact.eq (.bool false),
            Fact.eq (.bool true),
            Fact.eq (.bool true),
            Fact.eq undef,
            Fact.eq undef,
            Fact.eq undef,
            Fact.eq undef,
            Fact.eq undef,
            Fact.eq undef,
            Fact.eq undef,
            Fact.eq undef,
            Fact.eq (.bool true)]
          [[], [(0, 24)], [(1, 25)], [(2, 26)], [(3, 27), (2, 26)], [(2, 26)], [(2, 26)], [(5, 29), (6, 30), (2, 26)], [(7, 31), (2, 26)], [(8, 32), (2, 26)], [(4, 28), (9, 33), (2, 26)], [(2, 26), (10, 34)]]
          [(0, 24), (1, 25), (2, 26), (3, 27), (4, 28), (5, 29), (6, 30), (7, 31), (8, 32), (9, 33), (10, 34), (11, 35)] (by kernel_rfl) (by kernel_rfl) ?_ ?_
        · refine ⟨?_, ?_, ?_, ?_, ?_, ?_, ?_, ?_, ?_, ?_, ?_, ?_, trivial⟩
          · intro w1 hx1; change wpList _ _ _ _ _ _; exact ob_move rfl rfl rfl rfl rfl
          · intro w1 hx1; rintro _ rfl; change wpList _ _ _ _ _ _; go_wp2_with fail; exact ⟨rfl, Ext.refl _, rfl, rfl⟩
          · intro w1 hx1; rintro _ rfl; change wpList _ _ _ _ _ _; exact ob_move rfl rfl rfl rfl rfl
          · intro w1 hx1; rintro _ rfl; change wpList _ _ _ _ _ _; exact ob_skip rfl rfl rfl rfl
          · intro w1 hx1; rintro _ rfl; rintro _ rfl; change wpList _ _ _ _ _ _; exact ob_skip rfl rfl rfl rfl
          · intro w1 hx1; rintro _ rfl; change wpList _ _ _ _ _ _; exact ob_skip rfl rfl rfl rfl
          · intro w1 hx1; rintro _ rfl; change wpList _ _ _ _ _ _; exact ob_skip rfl rfl rfl rfl
          · intro w1 hx1; rintro _ rfl; rintro _ rfl; rintro _ rfl; change wpList _ _ _ _ _ _; exact ob_skip rfl rfl rfl rfl
          · intro w1 hx1; rintro _ rfl; rintro _ rfl; change wpList _ _ _ _ _ _; exact ob_skip rfl rfl rfl rfl
          · intro w1 hx1; rintro _ rfl; rintro _ rfl; change wpList _ _ _ _ _ _; exact ob_skip rfl rfl rfl rfl
          · intro w1 hx1; rintro _ rfl; rintro _ rfl; rintro _ rfl; change wpList _ _ _ _ _ _; exact ob_skip rfl rfl rfl rfl
          · intro w1 hx1; rintro _ rfl; rintro _ rfl; change wpList _ _ _ _ _ _; exact ob_pick rfl rfl rfl rfl rfl rfl
        · intro w1 hx1; rintro _ rfl; rintro _ rfl; rintro _ rfl; rintro _ rfl; rintro _ rfl; rintro _ rfl; rintro _ rfl; rintro _ rfl; rintro _ rfl; rintro _ rfl; rintro _ rfl; rintro _ rfl; refine depsThen_nil ?_; dsimp only; simp only [Act.put, List.setIfInBounds_toArray, List.set_cons_zero, List.set_cons_succ]
          have n2 := hx1.cell q2
          have n1 := hx1.cell m2'
          have K0 := Lib.hid (block_later H0.out hx1)
          have K2 := Lib.hid (block_later H2.out hx1)
          have KX := Lib.hid (HX2.out.trans hx1)
          have KM := Lib.hid (HMX.out.ext hx1)
          clear q2 m2' H0 H2 HX2 HMX hx1
          go_wp2_with (refine wpList_put rfl (.tmp 36) (.tmp 39) (.tmp 40) 39 rfl Try.underlying39 Try.underlying9 rfl KM.out trivial ?_; intro w2 hbut hput; have HBUT := Lib.hid hbut; have HPUT := Lib.hid hput; clear hbut hput)
          go_roundw
          case rel =>
            rcases HPUT.out with ⟨_, hp⟩ | ⟨j, u, hj, _⟩
            · refine ⟨k + 1, hlt, by go_num, ⟨_, hp, ?_⟩, (HBUT.out.block _ (by omega)).trans K0.out, (HBUT.out.block _ (by omega)).trans K2.out, HBUT.out.ext KX.out (by omega)⟩
              have h3 := HNEW.out
              rw [HLEN.out] at h3
              rw [HSN.out]
              exact h3
            · exact absurd rfl (G2.out _ (List.mem_of_getElem? hj))
          case measure => simp [intOf]; omega
      · have HKNOWN := Lib.hid g1
        have hbest : ∃ hmu : m < us.length, us[m].n = n ∧ m < k := by
          rcases lastF_law ((us.take k).map nkOf) x.key with ⟨e, _⟩ | ⟨m', n', e, hb⟩
          · rw [g1] at e; cases e
          · rw [g1] at e
            simp only [Option.some.injEq, Prod.mk.injEq] at e
            obtain ⟨rfl, rfl⟩ := e
            have hb1 := hb.at_
            have hmk : m < k := by have := (List.getElem?_eq_some_iff.1 hb1).1; rw [HLEN.out] at this; exact this
            rw [List.getElem?_map, List.getElem?_take_of_lt hmk, List.getElem?_eq_getElem (by omega)] at hb1
            simp only [Option.map_some, Option.some.injEq, nkOf, Prod.mk.injEq] at hb1
            exact ⟨by omega, hb1.1, hmk⟩
        obtain ⟨hmu, hmn, hmk⟩ := hbest
        obtain ⟨B', o', e0, z0, _, _, _⟩ := (HI.out.ext hx.out).at hmu
        cases e0
        rw [hmn] at z0
        have hlook : (Instr.lookup 39 (.map (some (w.heap.size + 1))) (.string (strOf x.key)) true).run Try.prog (wr.alloc (.cells #[.int .u64 x.n, .int .u64 x.t, .string (strOf x.key), .slice ha hn hcc] 33)) = .ok (.tuple #[.int .i64 m, .bool true]) (wr.alloc (.cells #[.int .u64 x.n, .int .u64 x.t, .string (strOf x.key), .slice ha hn hcc] 33)) := by
          rcases hlk with ⟨h, _⟩ | ⟨j', v, h, _, h2⟩
          · exact absurd rfl (h _ (List.mem_of_getElem? g2))
          · rw [nodup_at HMX.out.keys.2 h g2] at h2; exact h2
        have hmN : (m : Int) < (N : Int) := by omega
        clear hlk g1
        have G2 := Lib.hid g2
        clear g2
        go_upto_region 6 with fail
        have q0 := cell_of_row _ _ 0 _ _ _ hbx
        have z0' := hxa.cell z0
        have m0' := hxa.cell m0
        have hx2 := hx.out.trans hxa
        have HX2 := Lib.hid hx2
        have H0 := Lib.hid (block_later h0.out hxa)
        have H2 := Lib.hid (block_later h2.out hxa)
        clear z0 m0 m2 f0 f1 f2 f3 hlook hx2 h0 h2 hx HMM hst hxa hbx
        generalize wr.alloc (.cells #[.int .u64 x.n, .int .u64 x.t, .string (strOf x.key), .slice ha hn hcc] 33) = wa at *
        generalize wr.heap.size = bx at *
        by_cases hle : n ≤ x.n
        · have hge : decide ((n : Int) ≤ (x.n : Int)) = true := decide_eq_true (by omega)
          refine wp_region_facts [Fact.eq (.bool true),
              Fact.eq (.bool false),
              Fact.eq (.bool false),
              Fact.eq (.pointer (some ⟨bx, 0, none⟩)),
              Fact.eq (.int .u64 x.n),
              Fact.eq (.slice (some ⟨B, o, none⟩) N cap),
              Fact.eq (.int .i64 m),
              Fact.eq (.pointer (some ⟨B, o + m * 4, none⟩)),
              Fact.eq (.pointer (some ⟨B, o + m * 4, none⟩)),
              Fact.eq (.int .u64 n),
              Fact.eq (.bool true),
              Fact.eq (.bool true)]
            [[], [(0, 24)], [(1, 25)], [(2, 26)], [(3, 27), (2, 26)], [(2, 26)], [(2, 26)], [(5, 29), (6, 30), (2, 26)], [(7, 31), (2, 26)], [(8, 32), (2, 26)], [(4, 28), (9, 33), (2, 26)], [(2, 26), (10, 34)]]
            [(0, 24), (1, 25), (2, 26), (3, 27), (4, 28), (5, 29), (6, 30), (7, 31), (8, 32), (9, 33), (10, 34), (11, 35)] (by kernel_rfl) (by kernel_rfl) ?_ ?_
          · refine ⟨?_, ?_, ?_, ?_, ?_, ?_, ?_, ?_, ?_, ?_, ?_, ?_, trivial⟩
            · intro w1 hx1; change wpList _ _ _ _ _ _; exact ob_move rfl rfl rfl rfl rfl
            · intro w1 hx1; rintro _ rfl; change wpList _ _ _ _ _ _; go_wp2_with fail; exact ⟨rfl, Ext.refl _, rfl, rfl⟩
            · intro w1 hx1; rintro _ rfl; change wpList _ _ _ _ _ _; exact ob_move rfl rfl rfl rfl rfl
            · intro w1 hx1; rintro _ rfl; change wpList _ _ _ _ _ _; go_wp2_with fail; exact ⟨rfl, Ext.refl _, rfl, rfl⟩
            · intro w1 hx1; rintro _ rfl; rintro _ rfl; change wpList _ _ _ _ _ _; have n0 := hx1.cell q0; go_wp2_with fail; exact ⟨rfl, Ext.refl _, rfl, rfl⟩
            · intro w1 hx1; rintro _ rfl; change wpList _ _ _ _ _ _; have n0 := hx1.cell m0'; go_wp2_with fail; exact ⟨rfl, Ext.refl _, rfl, rfl⟩
            · intro w1 hx1; rintro _ rfl; change wpList _ _ _ _ _ _; exact ob_move rfl rfl rfl rfl rfl
            · intro w1 hx1; rintro _ rfl; rintro _ rfl; rintro _ rfl; change wpList _ _ _ _ _ _; go_wp2_with fail; exact ⟨rfl, Ext.refl _, rfl, rfl⟩
            · intro w1 hx1; rintro _ rfl; rintro _ rfl; change wpList _ _ _ _ _ _; go_wp2_with fail; exact ⟨rfl, Ext.refl _, rfl, rfl⟩
            · intro w1 hx1; rintro _ rfl; rintro _ rfl; change wpList _ _ _ _ _ _; have n0 := hx1.cell z0'; go_wp2_with fail; exact ⟨rfl, Ext.refl _, rfl, rfl⟩
            · intro w1 hx1; rintro _ rfl; rintro _ rfl; rintro _ rfl; change wpList _ _ _ _ _ _; go_wp2_with fail; exact ⟨rfl, Ext.refl _, rfl, rfl⟩
            · intro w1 hx1; rintro _ rfl; rintro _ rfl; change wpList _ _ _ _ _ _; exact ob_pick rfl rfl rfl rfl rfl rfl
          · intro w1 hx1; rintro _ rfl; rintro _ rfl; rintro _ rfl; rintro _ rfl; rintro _ rfl; rintro _ rfl; rintro _ rfl; rintro _ rfl; rintro _ rfl; rintro _ rfl; rintro _ rfl; rintro _ rfl; refine depsThen_nil ?_; dsimp only; simp only [Act.put, List.setIfInBounds_toArray, List.set_cons_zero, List.set_cons_succ]
            have n2 := hx1.cell q2
            have n1 := hx1.cell m2'
            have K0 := Lib.hid (block_later H0.out hx1)
            have K2 := Lib.hid (block_later H2.out hx1)
            have KX := Lib.hid (HX2.out.trans hx1)
            have KM := Lib.hid (HMX.out.ext hx1)
            clear q0 q2 z0' m0' m2' H0 H2 HX2 HMX hx1
            go_wp2_with (refine wpList_put rfl (.tmp 36) (.tmp 39) (.tmp 40) 39 rfl Try.underlying39 Try.underlying9 rfl KM.out trivial ?_; intro w2 hbut hput; have HBUT := Lib.hid hbut; have HPUT := Lib.hid hput; clear hbut hput)
            go_roundw
            case rel =>
              rcases HPUT.out with ⟨hp, _⟩ | ⟨j', u, hj, hp⟩
              · exact absurd rfl (hp _ (List.mem_of_getElem? G2.out))
              · refine ⟨k + 1, hlt, by go_num, ⟨_, hp, ?_⟩, (HBUT.out.block _ (by omega)).trans K0.out, (HBUT.out.block _ (by omega)).trans K2.out, HBUT.out.ext KX.out (by omega)⟩
                have h3 := mapOf_set (x := (x.n, x.key)) HE.out HKNOWN.out hle hj
                rw [HLEN.out] at h3
                rw [HSN.out]
                exact h3
            case measure => simp [intOf]; omega
        · have hge : decide ((n : Int) ≤ (x.n : Int)) = false := decide_eq_false (by omega)
          refine wp_region_facts [Fact.eq (.bool true),
              Fact.eq (.bool false),
              Fact.eq (.bool false),
              Fact.eq (.pointer (some ⟨bx, 0, none⟩)),
              Fact.eq (.int .u64 x.n),
              Fact.eq (.slice (some ⟨B, o, none⟩) N cap),
              Fact.eq (.int .i64 m),
              Fact.eq (.pointer (some ⟨B, o + m * 4, none⟩)),
              Fact.eq (.pointer (some ⟨B, o + m * 4, none⟩)),
              Fact.eq (.int .u64 n),
              Fact.eq (.bool false),
              Fact.eq (.bool false)]
            [[], [(0, 24)], [(1, 25)], [(2, 26)], [(3, 27), (2, 26)], [(2, 26)], [(2, 26)], [(5, 29), (6, 30), (2, 26)], [(7, 31), (2, 26)], [(8, 32), (2, 26)], [(4, 28), (9, 33), (2, 26)], [(2, 26), (10, 34)]]
            [(0, 24), (1, 25), (2, 26), (3, 27), (4, 28), (5, 29), (6, 30), (7, 31), (8, 32), (9, 33), (10, 34), (11, 35)] (by kernel_rfl) (by kernel_rfl) ?_ ?_
          · refine ⟨?_, ?_, ?_, ?_, ?_, ?_, ?_, ?_, ?_, ?_, ?_, ?_, trivial⟩
            · intro w1 hx1; change wpList _ _ _ _ _ _; exact ob_move rfl rfl rfl rfl rfl
            · intro w1 hx1; rintro _ rfl; change wpList _ _ _ _ _ _; go_wp2_with fail; exact ⟨rfl, Ext.refl _, rfl, rfl⟩
            · intro w1 hx1; rintro _ rfl; change wpList _ _ _ _ _ _; exact ob_move rfl rfl rfl rfl rfl
            · intro w1 hx1; rintro _ rfl; change wpList _ _ _ _ _ _; go_wp2_with fail; exact ⟨rfl, Ext.refl _, rfl, rfl⟩
            · intro w1 hx1; rintro _ rfl; rintro _ rfl; change wpList _ _ _ _ _ _; have n0 := hx1.cell q0; go_wp2_with fail; exact ⟨rfl, Ext.refl _, rfl, rfl⟩
            · intro w1 hx1; rintro _ rfl; change wpList _ _ _ _ _ _; have n0 := hx1.cell m0'; go_wp2_with fail; exact ⟨rfl, Ext.refl _, rfl, rfl⟩
            · intro w1 hx1; rintro _ rfl; change wpList _ _ _ _ _ _; exact ob_move rfl rfl rfl rfl rfl
            · intro w1 hx1; rintro _ rfl; rintro _ rfl; rintro _ rfl; change wpList _ _ _ _ _ _; go_wp2_with fail; exact ⟨rfl, Ext.refl _, rfl, rfl⟩
            · intro w1 hx1; rintro _ rfl; rintro _ rfl; change wpList _ _ _ _ _ _; go_wp2_with fail; exact ⟨rfl, Ext.refl _, rfl, rfl⟩
            · intro w1 hx1; rintro _ rfl; rintro _ rfl; change wpList _ _ _ _ _ _; have n0 := hx1.cell z0'; go_wp2_with fail; exact ⟨rfl, Ext.refl _, rfl, rfl⟩
            · intro w1 hx1; rintro _ rfl; rintro _ rfl; rintro _ rfl; change wpList _ _ _ _ _ _; go_wp2_with fail; exact ⟨rfl, Ext.refl _, rfl, rfl⟩
            · intro w1 hx1; rintro _ rfl; rintro _ rfl; change wpList _ _ _ _ _ _; exact ob_pick rfl rfl rfl rfl rfl rfl
          · intro w1 hx1; rintro _ rfl; rintro _ rfl; rintro _ rfl; rintro _ rfl; rintro _ rfl; rintro _ rfl; rintro _ rfl; rintro _ rfl; rintro _ rfl; rintro _ rfl; rintro _ rfl; rintro _ rfl; refine depsThen_nil ?_; dsimp only; simp only [Act.put, List.setIfInBounds_toArray, List.set_cons_zero, List.set_cons_succ]
            have K0 := Lib.hid (block_later H0.out hx1)
            have K2 := Lib.hid (block_later H2.out hx1)
            have KX := Lib.hid (HX2.out.trans hx1)
            have KM := Lib.hid (HMX.out.ext hx1)
            clear q0 q2 z0' m0' m2' H0 H2 HX2 HMX hx1
            go_wp2_with fail
            go_roundw
            case rel =>
              refine ⟨k + 1, hlt, by go_num, ⟨_, KM.out, ?_⟩, K0.out, K2.out, KX.out⟩
              rw [HSN.out]
              exact mapOf_keep (x := (x.n, x.key)) HE.out HKNOWN.out hle
            case measure => simp [intOf]; omega
    · obtain rfl : k = N := by omega
      have hI : decide ((k : Int) < (k : Int)) = false := decide_eq_false (by omega)
      have htk : us.take k = us := List.take_of_length_le (by rw [HN.out]; exact Nat.le_refl _)
      have hs := hst.out
      rw [htk] at hs
      have HS := Lib.hid hs
      clear hs htk hst
      go_wp2_with fail
      go_ret
      obtain ⟨E, e1, e2⟩ := HS.out
      exact ⟨_, _, _, E, rfl, h0.out, h2.out, e1, e2, hx.out⟩
end Go.Proofs.Ytlgopjfnknjgjaa
