/- state (19): of each key the number that is told last. -/
import Derived.Test.YtlgopjfnknjgjaaZ6
import Derived.Test.YtlgopjfnknjgjaaM2
namespace Go.Proofs.Ytlgopjfnknjgjaa
open Go.RowKit Go.MapKept

def eAt (T : List (List UInt8 × Nat × Nat)) : List (Value × Value) := T.map fun t => (.string (strOf t.1), .int .i64 (t.2.1 : Nat))
def eNum (T : List (List UInt8 × Nat × Nat)) : List (Value × Value) := T.map fun t => (.string (strOf t.1), .int .u64 (t.2.2 : Nat))
theorem eAt_snoc (T : List (List UInt8 × Nat × Nat)) (t : List UInt8 × Nat × Nat) : eAt (T ++ [t]) = eAt T ++ [(.string (strOf t.1), .int .i64 (t.2.1 : Nat))] := by unfold eAt; rw [List.map_append]; rfl
theorem eNum_snoc (T : List (List UInt8 × Nat × Nat)) (t : List UInt8 × Nat × Nat) : eNum (T ++ [t]) = eNum T ++ [(.string (strOf t.1), .int .u64 (t.2.2 : Nat))] := by unfold eNum; rw [List.map_append]; rfl
theorem eAt_set (T : List (List UInt8 × Nat × Nat)) (j : Nat) (t : List UInt8 × Nat × Nat) : eAt (T.set j t) = (eAt T).set j (.string (strOf t.1), .int .i64 (t.2.1 : Nat)) := by unfold eAt; rw [List.map_set]
theorem eNum_set (T : List (List UInt8 × Nat × Nat)) (j : Nat) (t : List UInt8 × Nat × Nat) : eNum (T.set j t) = (eNum T).set j (.string (strOf t.1), .int .u64 (t.2.2 : Nat)) := by unfold eNum; rw [List.map_set]
theorem eAt_get {T : List (List UInt8 × Nat × Nat)} {j : Nat} {k : List UInt8} {v : Value} (h : (eAt T)[j]? = some (.string (strOf k), v)) : ∃ m n, T[j]? = some (k, m, n) ∧ v = .int .i64 (m : Nat) := by
  unfold eAt at h
  rw [List.getElem?_map] at h
  cases ht : T[j]? with
  | none => rw [ht] at h; cases h
  | some t =>
    rw [ht] at h
    simp only [Option.map_some, Option.some.injEq, Prod.mk.injEq, Value.string.injEq] at h
    obtain ⟨a, m, n⟩ := t
    obtain rfl := strOf_inj.1 h.1
    exact ⟨m, n, rfl, h.2.symm⟩
theorem eNum_get {T : List (List UInt8 × Nat × Nat)} {j : Nat} {k : List UInt8} {v : Value} (h : (eNum T)[j]? = some (.string (strOf k), v)) : ∃ m n, T[j]? = some (k, m, n) ∧ v = .int .u64 (n : Nat) := by
  unfold eNum at h
  rw [List.getElem?_map] at h
  cases ht : T[j]? with
  | none => rw [ht] at h; cases h
  | some t =>
    rw [ht] at h
    simp only [Option.map_some, Option.some.injEq, Prod.mk.injEq, Value.string.injEq] at h
    obtain ⟨a, m, n⟩ := t
    obtain rfl := strOf_inj.1 h.1
    exact ⟨m, n, rfl, h.2.symm⟩
theorem eAt_none {T : List (List UInt8 × Nat × Nat)} {k : List UInt8} (h : ∀ p ∈ eAt T, p.1 ≠ Value.string (strOf k)) : ∀ t ∈ T, t.1 ≠ k := fun t ht e => h _ (List.mem_map.2 ⟨t, ht, rfl⟩) (by rw [e])
theorem eNum_none {T : List (List UInt8 × Nat × Nat)} {k : List UInt8} (h : ∀ t ∈ T, t.1 ≠ k) : ∀ p ∈ eNum T, p.1 ≠ Value.string (strOf k) := fun p hp e => by
  obtain ⟨t, ht, rfl⟩ := List.mem_map.1 hp
  exact h t ht (strOf_inj.1 (by simpa using e))
theorem eNum_at {T : List (List UInt8 × Nat × Nat)} {j : Nat} {k : List UInt8} {m n : Nat} (h : T[j]? = some (k, m, n)) : (eNum T)[j]? = some (.string (strOf k), .int .u64 (n : Nat)) := by unfold eNum; rw [List.getElem?_map, h]; rfl
theorem eAt_at {T : List (List UInt8 × Nat × Nat)} {j : Nat} {k : List UInt8} {m n : Nat} (h : T[j]? = some (k, m, n)) : (eAt T)[j]? = some (.string (strOf k), .int .i64 (m : Nat)) := by unfold eAt; rw [List.getElem?_map, h]; rfl
/-- The two maps as they stand in memory. -/
structure TwoM (w : World) (b0 : Nat) (T : List (List UInt8 × Nat × Nat)) : Prop where
  num : MapE w b0 .string (eNum T)
  at_ : MapE w (b0 + 1) .string (eAt T)
theorem TwoM.ext {w w' : World} {b0 : Nat} {T : List (List UInt8 × Nat × Nat)} (h : TwoM w b0 T) (hx : Ext w w') : TwoM w' b0 T := ⟨h.num.ext hx, h.at_.ext hx⟩

/-- Region 10: both maps are told of a key. -/
theorem two_put {wr : World} {b0 k n j : Nat} {key : List UInt8} {T T' : List (List UInt8 × Nat × Nat)} (hT : TwoM wr b0 T)
    (h : ((∀ t ∈ T, t.1 ≠ key) ∧ T' = T ++ [(key, k, n)]) ∨ ∃ m n0, T[j]? = some (key, m, n0) ∧ T' = T.set j (key, k, n)) {w2 : World}
    (hb : But (b0 + 1) wr w2) (hp : ((∀ p ∈ eAt T, p.1 ≠ Value.string (strOf key)) ∧ MapE w2 (b0 + 1) .string (eAt T ++ [(.string (strOf key), .int .i64 (k : Nat))])) ∨ ∃ (j' : Nat) (u : Value), (eAt T)[j']? = some (.string (strOf key), u) ∧ MapE w2 (b0 + 1) .string ((eAt T).set j' (.string (strOf key), .int .i64 (k : Nat)))) :
    MapE w2 (b0 + 1) .string (eAt T') ∧ MapE w2 b0 .string (eNum T) := by
  refine ⟨?_, hb.map hT.num (by omega)⟩
  rcases h with ⟨h1, rfl⟩ | ⟨m, n0, hj, rfl⟩
  · rcases hp with ⟨_, hp⟩ | ⟨j', u, hj', _⟩
    · rw [eAt_snoc]; exact hp
    · obtain ⟨m', n', ht, _⟩ := eAt_get hj'
      exact absurd rfl (h1 _ (List.mem_of_getElem? ht))
  · rcases hp with ⟨hp, _⟩ | ⟨j', u, hj', hp⟩
    · exact absurd rfl (hp _ (List.mem_of_getElem? (eAt_at hj)))
    · obtain ⟨m', n', ht, _⟩ := eAt_get hj'
      have hnd := hT.at_.keys.2
      have : j' = j := by
        have h1 : ((eAt T).map (·.1))[j']? = some (.string (strOf key)) := by rw [List.getElem?_map, hj']; rfl
        have h2 : ((eAt T).map (·.1))[j]? = some (.string (strOf key)) := by rw [List.getElem?_map, eAt_at hj]; rfl
        exact (List.getElem?_inj (List.getElem?_eq_some_iff.1 h1).1 hnd).1 (h1.trans h2.symm)
      subst this
      rw [eAt_set]; exact hp

theorem two_new {w2 w3 w4 : World} {b0 k n : Nat} {key : List UInt8} {T : List (List UInt8 × Nat × Nat)} (h : MapE w2 (b0 + 1) .string (eAt (T ++ [(key, k, n)])))
    (hb : But b0 w2 w3) (hb2 : But b0 w3 w4) (hm : MapE w4 b0 .string ((eNum T ++ [(Value.string (strOf key), Value.int .u64 0)]).set (eNum T).length (Value.string (strOf key), Value.int .u64 (n : Nat)))) : TwoM w4 b0 (T ++ [(key, k, n)]) := by
  refine ⟨?_, (hb.trans hb2).map h (by omega)⟩
  rw [eNum_snoc]
  rw [List.set_append_right _ _ (Nat.le_refl _), Nat.sub_self, List.set_cons_zero] at hm
  exact hm
theorem two_old {w2 w3 w4 : World} {b0 k n j j' : Nat} {key : List UInt8} {u : Value} {T : List (List UInt8 × Nat × Nat)} (h : MapE w2 (b0 + 1) .string (eAt (T.set j (key, k, n)))) {m n0 : Nat} (hj : T[j]? = some (key, m, n0)) (hnd : ((eNum T).map (·.1)).Nodup)
    (hb : But b0 w2 w3) (hb2 : But b0 w3 w4) (hj' : (eNum T)[j']? = some (.string (strOf key), u)) (hm : MapE w4 b0 .string ((eNum T).set j' (Value.string (strOf key), Value.int .u64 (n : Nat)))) : TwoM w4 b0 (T.set j (key, k, n)) := by
  refine ⟨?_, (hb.trans hb2).map h (by omega)⟩
  have : j' = j := by
    have h1 : ((eNum T).map (·.1))[j']? = some (.string (strOf key)) := by rw [List.getElem?_map, hj']; rfl
    have h2 : ((eNum T).map (·.1))[j]? = some (.string (strOf key)) := by rw [List.getElem?_map, eNum_at hj]; rfl
    exact (List.getElem?_inj (List.getElem?_eq_some_iff.1 h1).1 hnd).1 (h1.trans h2.symm)
  subst this
  rw [eNum_set]; exact hm
theorem but_two {w wr w2 w3 w4 : World} (hx : Ext w wr) (h1 : But (w.heap.size + 1) wr w2) (h2 : But w.heap.size w2 w3) (h3 : But w.heap.size w3 w4) : Ext w w4 :=
  h3.ext (h2.ext (h1.ext hx (Nat.le_succ _)) (Nat.le_refl _)) (Nat.le_refl _)

set_option maxRecDepth 100000 in
set_option maxHeartbeats 8000000 in
theorem state_any (w : World) (vl : Value) (us : List IT) (hi : ItemR w vl us) :
    Calls Try.prog 19 #[vl] w fun e w' => ∃ T, e = .returned (.map (some w.heap.size)) ∧ MapE w' w.heap.size .string (eNum T) ∧ StOf (us.map nkOf) T ∧ Ext w w' := by
  obtain ⟨a, cap, rfl, hc, hmx⟩ := hi.shape
  unfold maxLen at hmx
  have HI := Lib.hid hi
  clear hi
  have hmk : (Instr.makeMap 36 none).run Try.prog w = .ok (.map (some w.heap.size)) (w.alloc (.map #[] 0)) := run_makeMap (P := Try.prog) 36 w
  have hmk2 : (Instr.makeMap 39 none).run Try.prog (w.alloc (.map #[] 0)) = .ok (.map (some (w.heap.size + 1))) ((w.alloc (.map #[] 0)).alloc (.map #[] 0)) := by
    have := run_makeMap (P := Try.prog) 39 (w.alloc (.map #[] 0))
    rwa [World.size_alloc] at this
  have hm0 : TwoM ((w.alloc (.map #[] 0)).alloc (.map #[] 0)) w.heap.size [] := by
    refine ⟨(MapE.made w .string).ext ((Ext.refl _).alloc _), ?_⟩
    have := MapE.made (w.alloc (.map #[] 0)) .string
    rwa [World.size_alloc] at this
  have hx0 : Ext w ((w.alloc (.map #[] 0)).alloc (.map #[] 0)) := ((Ext.refl w).alloc _).alloc _
  generalize hN : us.length = N at *
  have HN := Lib.hid hN
  have HM0 := Lib.hid hm0
  have HX0 := Lib.hid hx0
  clear hN hm0 hx0
  go_enter Try.func19, Try.ntmps19
  go_wp2_with fail
  clear hmk hmk2
  generalize (w.alloc (.map #[] 0)).alloc (.map #[] 0) = w0 at *
  go_loopw [5] (fun i wr => ∃ k : Nat, k ≤ N ∧ i = .int .i64 k ∧ Hid (∃ T, TwoM wr w.heap.size T ∧ StOf ((us.take k).map nkOf) T) ∧ Hid (Ext w wr)) (fun i _ => N - (intOf i).toNat)
  case atStart => exact ⟨0, Nat.zero_le _, rfl, ⟨[], HM0.out, st_nil⟩, HX0⟩
  case round =>
    clear HM0 HX0
    obtain ⟨k, hk, rfl, hst, hx⟩ := hrel
    by_cases hlt : k < N
    · have hI : decide ((k : Int) < (N : Int)) = true := decide_eq_true (by omega)
      have hkN : (k : Int) < (N : Int) := by omega
      have hkl : k < us.length := by rw [HN.out]; exact hlt
      obtain ⟨B, o, rfl, f0, f1, f2, f3⟩ := (HI.out.ext hx.out).at hkl
      obtain ⟨T, hT, hS⟩ := hst.out
      have hlen : ((us.take k).map nkOf).length = k := by rw [List.length_map, List.length_take]; omega
      have hsn : (us.take (k + 1)).map nkOf = (us.take k).map nkOf ++ [nkOf us[k]] := by rw [List.take_succ_eq_append_getElem hkl, List.map_append]; rfl
      have hnk : nkOf us[k] = (us[k].n, us[k].key) := rfl
      rw [hnk] at hsn
      clear hnk f1 f3
      have HSN := Lib.hid hsn
      have HLEN := Lib.hid hlen
      have HT := Lib.hid hT
      have HS := Lib.hid hS
      clear hsn hlen hT hS hst
      have hne : (us[k].key == []) = us[k].key.isEmpty := by cases us[k].key <;> rfl
      generalize us[k].key = key at *
      generalize us[k].n = xn at *
      cases hke : key.isEmpty with
      | true =>
        obtain rfl : key = [] := List.isEmpty_iff.1 hke
        clear hne hke
        go_wp2_with fail
        go_roundw
        case rel =>
          refine ⟨k + 1, hlt, by go_num, ⟨T, HT.out, ?_⟩, hx⟩
          rw [HSN.out]
          exact st_skip HS.out rfl
        case measure => simp [intOf]; omega
      | false =>
        have hkb : (key == []) = false := by rw [hne]; exact hke
        have hk0 : Hid (key ≠ []) := fun e => by rw [e] at hke; cases hke
        clear hne hke
        have hlk := HT.out.at_.look (P := Try.prog) (t := 39) (e := 3) (z := .int .i64 0) Try.underlying39 Try.underlying9 (by kernel_rfl) (key := .string (strOf key)) trivial
        have hz36 : ∀ w, (zeroValue 28).run Try.prog w = .ok (.int .u64 0) w := fun _ => by kernel_rfl
        have HZ := Lib.hid hz36
        clear hz36
        rcases hlk with ⟨h1, _, h2⟩ | ⟨j, v, h1, _, h2⟩
        · have hno := eAt_none h1
          have HNO := Lib.hid hno
          have HNEW := Lib.hid (st_new (x := (xn, key)) HS.out hk0.out hno)
          rw [HLEN.out] at HNEW
          clear h1 hno
          go_upto_region 9 with fail
          clear h2
          refine wp_region_facts [Fact.eq (.bool false),
              Fact.eq (.bool true),
              Fact.eq (.bool true),
              Fact.eq undef,
              Fact.eq undef,
              Fact.eq undef,
              Fact.eq undef,
              Fact.eq undef,
              Fact.eq undef,
              Fact.eq undef,
              Fact.eq undef,
              Fact.eq undef,
              Fact.eq undef,
              Fact.eq undef,
              Fact.eq (.bool true)]
            [[], [(0, 31)], [(1, 32)], [(2, 33)], [(2, 33)], [(3, 34), (4, 35), (2, 33)], [(5, 36), (2, 33)], [(6, 37), (2, 33)], [(2, 33)], [(2, 33)], [(8, 39), (9, 40), (2, 33)], [(10, 41), (2, 33)], [(11, 42), (2, 33)], [(7, 38), (12, 43), (2, 33)], [(2, 33), (13, 44)]]
            [(0, 31), (1, 32), (2, 33), (3, 34), (4, 35), (5, 36), (6, 37), (7, 38), (8, 39), (9, 40), (10, 41), (11, 42), (12, 43), (13, 44), (14, 45)] (by kernel_rfl) (by kernel_rfl) ?_ ?_
          · refine ⟨?_, ?_, ?_, ?_, ?_, ?_, ?_, ?_, ?_, ?_, ?_, ?_, ?_, ?_, ?_, trivial⟩
            · intro w1 hx1; change wpList _ _ _ _ _ _; exact ob_move rfl rfl rfl rfl rfl
            · intro w1 hx1; rintro _ rfl; change wpList _ _ _ _ _ _; go_wp2_with fail; exact ⟨rfl, Ext.refl _, rfl, rfl⟩
            · intro w1 hx1; rintro _ rfl; change wpList _ _ _ _ _ _; exact ob_move rfl rfl rfl rfl rfl
            · intro w1 hx1; rintro _ rfl; change wpList _ _ _ _ _ _; exact ob_skip rfl rfl rfl rfl
            · intro w1 hx1; rintro _ rfl; change wpList _ _ _ _ _ _; exact ob_skip rfl rfl rfl rfl
            · intro w1 hx1; rintro _ rfl; rintro _ rfl; rintro _ rfl; change wpList _ _ _ _ _ _; exact ob_skip rfl rfl rfl rfl
            · intro w1 hx1; rintro _ rfl; rintro _ rfl; change wpList _ _ _ _ _ _; exact ob_skip rfl rfl rfl rfl
            · intro w1 hx1; rintro _ rfl; rintro _ rfl; change wpList _ _ _ _ _ _; exact ob_skip rfl rfl rfl rfl
            · intro w1 hx1; rintro _ rfl; change wpList _ _ _ _ _ _; exact ob_skip rfl rfl rfl rfl
            · intro w1 hx1; rintro _ rfl; change wpList _ _ _ _ _ _; exact ob_skip rfl rfl rfl rfl
            · intro w1 hx1; rintro _ rfl; rintro _ rfl; rintro _ rfl; change wpList _ _ _ _ _ _; exact ob_skip rfl rfl rfl rfl
            · intro w1 hx1; rintro _ rfl; rintro _ rfl; change wpList _ _ _ _ _ _; exact ob_skip rfl rfl rfl rfl
            · intro w1 hx1; rintro _ rfl; rintro _ rfl; change wpList _ _ _ _ _ _; exact ob_skip rfl rfl rfl rfl
            · intro w1 hx1; rintro _ rfl; rintro _ rfl; rintro _ rfl; change wpList _ _ _ _ _ _; exact ob_skip rfl rfl rfl rfl
            · intro w1 hx1; rintro _ rfl; rintro _ rfl; change wpList _ _ _ _ _ _; exact ob_pick rfl rfl rfl rfl rfl rfl
          · intro w1 hx1; rintro _ rfl; rintro _ rfl; rintro _ rfl; rintro _ rfl; rintro _ rfl; rintro _ rfl; rintro _ rfl; rintro _ rfl; rintro _ rfl; rintro _ rfl; rintro _ rfl; rintro _ rfl; rintro _ rfl; rintro _ rfl; rintro _ rfl; refine depsThen_nil ?_; dsimp only; simp only [Act.put, List.setIfInBounds_toArray, List.set_cons_zero, List.set_cons_succ]
            have n0 := hx1.cell f0
            have KT := Lib.hid (HT.out.ext hx1)
            have KX := Lib.hid (hx.out.trans hx1)
            clear HT f0 f2 hx hx1
            go_wp2_with (first
              | (refine wpList_put rfl (.tmp 46) (.tmp 47) (.tmp 50) 39 rfl Try.underlying39 Try.underlying9 rfl KT.out.at_ trivial ?_; intro w2 hbut hput; have HBUT := Lib.hid hbut; have K2 := Lib.hid (two_put (j := 0) KT.out (.inl ⟨HNO.out, rfl⟩) (n := xn) hbut hput); clear hbut hput)
              | (refine wpList_entryE rfl (.tmp 48) (.tmp 49) 36 rfl Try.underlying36 Try.underlying9 HZ.out rfl K2.out.2 trivial ?_ ?_; rotate_left; (intro w3 st j' u hbut3 hj3 hent; obtain ⟨m0, n0, ht, _⟩ := eNum_get hj3; exact absurd rfl (HNO.out _ (List.mem_of_getElem? ht))); intro w3 st hbut3 hn3 hent; have HB3 := Lib.hid hbut3; have HE := Lib.hid hent; clear hbut3 hn3 hent)
              | (refine wpList_estore rfl (.tmp 48) (.tmp 57) (.tmp 55) 36 rfl rfl rfl HE.out (by rw [List.getElem?_append_right (Nat.le_refl _), Nat.sub_self]; rfl) ?_; intro w4 hbut4 hm4; have HB4 := Lib.hid hbut4; have HM4 := Lib.hid hm4; clear hbut4 hm4))
            go_roundw
            case rel =>
              refine ⟨k + 1, hlt, by go_num, ⟨_, two_new K2.out.1 HB3.out HB4.out HM4.out, ?_⟩, but_two KX.out HBUT.out HB3.out HB4.out⟩
              rw [HSN.out]
              exact HNEW.out
            case measure => simp [intOf]; omega
        · obtain ⟨m, n, hj, rfl⟩ := eAt_get h1
          have hsnd := (HS.out.sound _ (List.mem_of_getElem? hj)).2
          have hbest : ∃ hmu : m < us.length, us[m].n = n ∧ m < k := by
            rcases lastF_law ((us.take k).map nkOf) key with ⟨e, _⟩ | ⟨m', n', e, hb⟩
            · rw [hsnd] at e; cases e
            · rw [hsnd] at e
              simp only [Option.some.injEq, Prod.mk.injEq] at e
              obtain ⟨rfl, rfl⟩ := e
              have hb1 := hb.at_
              have hmk : m < k := by have := (List.getElem?_eq_some_iff.1 hb1).1; rw [HLEN.out] at this; exact this
              rw [List.getElem?_map, List.getElem?_take_of_lt hmk, List.getElem?_eq_getElem (by omega)] at hb1
              simp only [Option.map_some, Option.some.injEq, nkOf, Prod.mk.injEq] at hb1
              exact ⟨by omega, hb1.1, hmk⟩
          obtain ⟨hmu, hmn, hmk⟩ := hbest
          obtain ⟨B', o', e0, z0, _, _, _⟩ := (HI.out.ext hx.out).at hmu
          cases e0
          rw [hmn] at z0
          have hmN : (m : Int) < (N : Int) := by omega
          have HJ := Lib.hid hj
          have HSND := Lib.hid hsnd
          clear h1 hj hsnd hmn
          go_upto_region 9 with fail
          clear h2
          by_cases hle : n ≤ xn
          · have hge : decide ((n : Int) ≤ (xn : Int)) = true := decide_eq_true (by omega)
            have HSET := Lib.hid (st_set (x := (xn, key)) HS.out HJ.out hle)
            rw [HLEN.out] at HSET
            refine wp_region_facts [Fact.eq (.bool true),
                Fact.eq (.bool false),
                Fact.eq (.bool false),
                Fact.eq (.slice (some ⟨B, o, none⟩) N cap),
                Fact.eq (.int .i64 m),
                Fact.eq (.pointer (some ⟨B, o + m * 4, none⟩)),
                Fact.eq (.pointer (some ⟨B, o + m * 4, none⟩)),
                Fact.eq (.int .u64 n),
                Fact.eq (.slice (some ⟨B, o, none⟩) N cap),
                Fact.eq (.int .i64 k),
                Fact.eq (.pointer (some ⟨B, o + k * 4, none⟩)),
                Fact.eq (.pointer (some ⟨B, o + k * 4, none⟩)),
                Fact.eq (.int .u64 xn),
                Fact.eq (.bool true),
                Fact.eq (.bool true)]
              [[], [(0, 31)], [(1, 32)], [(2, 33)], [(2, 33)], [(3, 34), (4, 35), (2, 33)], [(5, 36), (2, 33)], [(6, 37), (2, 33)], [(2, 33)], [(2, 33)], [(8, 39), (9, 40), (2, 33)], [(10, 41), (2, 33)], [(11, 42), (2, 33)], [(7, 38), (12, 43), (2, 33)], [(2, 33), (13, 44)]]
              [(0, 31), (1, 32), (2, 33), (3, 34), (4, 35), (5, 36), (6, 37), (7, 38), (8, 39), (9, 40), (10, 41), (11, 42), (12, 43), (13, 44), (14, 45)] (by kernel_rfl) (by kernel_rfl) ?_ ?_
            · refine ⟨?_, ?_, ?_, ?_, ?_, ?_, ?_, ?_, ?_, ?_, ?_, ?_, ?_, ?_, ?_, trivial⟩
              · intro w1 hx1; change wpList _ _ _ _ _ _; exact ob_move rfl rfl rfl rfl rfl
              · intro w1 hx1; rintro _ rfl; change wpList _ _ _ _ _ _; go_wp2_with fail; exact ⟨rfl, Ext.refl _, rfl, rfl⟩
              · intro w1 hx1; rintro _ rfl; change wpList _ _ _ _ _ _; exact ob_move rfl rfl rfl rfl rfl
              · intro w1 hx1; rintro _ rfl; change wpList _ _ _ _ _ _; exact ob_move rfl rfl rfl rfl rfl
              · intro w1 hx1; rintro _ rfl; change wpList _ _ _ _ _ _; exact ob_move rfl rfl rfl rfl rfl
              · intro w1 hx1; rintro _ rfl; rintro _ rfl; rintro _ rfl; change wpList _ _ _ _ _ _; go_wp2_with fail; exact ⟨rfl, Ext.refl _, rfl, rfl⟩
              · intro w1 hx1; rintro _ rfl; rintro _ rfl; change wpList _ _ _ _ _ _; go_wp2_with fail; exact ⟨rfl, Ext.refl _, rfl, rfl⟩
              · intro w1 hx1; rintro _ rfl; rintro _ rfl; change wpList _ _ _ _ _ _; have m0 := hx1.cell z0; go_wp2_with fail; exact ⟨rfl, Ext.refl _, rfl, rfl⟩
              · intro w1 hx1; rintro _ rfl; change wpList _ _ _ _ _ _; exact ob_move rfl rfl rfl rfl rfl
              · intro w1 hx1; rintro _ rfl; change wpList _ _ _ _ _ _; exact ob_move rfl rfl rfl rfl rfl
              · intro w1 hx1; rintro _ rfl; rintro _ rfl; rintro _ rfl; change wpList _ _ _ _ _ _; go_wp2_with fail; exact ⟨rfl, Ext.refl _, rfl, rfl⟩
              · intro w1 hx1; rintro _ rfl; rintro _ rfl; change wpList _ _ _ _ _ _; go_wp2_with fail; exact ⟨rfl, Ext.refl _, rfl, rfl⟩
              · intro w1 hx1; rintro _ rfl; rintro _ rfl; change wpList _ _ _ _ _ _; have m0 := hx1.cell f0; go_wp2_with fail; exact ⟨rfl, Ext.refl _, rfl, rfl⟩
              · intro w1 hx1; rintro _ rfl; rintro _ rfl; rintro _ rfl; change wpList _ _ _ _ _ _; go_wp2_with fail; exact ⟨rfl, Ext.refl _, rfl, rfl⟩
              · intro w1 hx1; rintro _ rfl; rintro _ rfl; change wpList _ _ _ _ _ _; exact ob_pick rfl rfl rfl rfl rfl rfl
            · intro w1 hx1; rintro _ rfl; rintro _ rfl; rintro _ rfl; rintro _ rfl; rintro _ rfl; rintro _ rfl; rintro _ rfl; rintro _ rfl; rintro _ rfl; rintro _ rfl; rintro _ rfl; rintro _ rfl; rintro _ rfl; rintro _ rfl; rintro _ rfl; refine depsThen_nil ?_; dsimp only; simp only [Act.put, List.setIfInBounds_toArray, List.set_cons_zero, List.set_cons_succ]
              have n0 := hx1.cell f0
              have KT := Lib.hid (HT.out.ext hx1)
              have KX := Lib.hid (hx.out.trans hx1)
              clear HT f0 f2 z0 hx hx1
              go_wp2_with (first
                | (refine wpList_put rfl (.tmp 46) (.tmp 47) (.tmp 50) 39 rfl Try.underlying39 Try.underlying9 rfl KT.out.at_ trivial ?_; intro w2 hbut hput; have HBUT := Lib.hid hbut; have K2 := Lib.hid (two_put (j := j) KT.out (.inr ⟨m, n, HJ.out, rfl⟩) (n := xn) hbut hput); clear hbut hput)
                | (refine wpList_entryE rfl (.tmp 48) (.tmp 49) 36 rfl Try.underlying36 Try.underlying9 HZ.out rfl K2.out.2 trivial ?_ ?_; (intro w3 st hbut3 hn3 hent; exact absurd rfl (hn3 _ (List.mem_of_getElem? (eNum_at HJ.out)))); intro w3 st j' u hbut3 hj3 hent; have HB3 := Lib.hid hbut3; have HE := Lib.hid hent; have HJ3 := Lib.hid hj3; clear hbut3 hj3 hent)
                | (refine wpList_estore rfl (.tmp 48) (.tmp 57) (.tmp 55) 36 rfl rfl rfl HE.out HJ3.out ?_; intro w4 hbut4 hm4; have HB4 := Lib.hid hbut4; have HM4 := Lib.hid hm4; clear hbut4 hm4))
              go_roundw
              case rel =>
                refine ⟨k + 1, hlt, by go_num, ⟨_, two_old K2.out.1 HJ.out K2.out.2.keys.2 HB3.out HB4.out HJ3.out HM4.out, ?_⟩, but_two KX.out HBUT.out HB3.out HB4.out⟩
                rw [HSN.out]
                exact HSET.out
              case measure => simp [intOf]; omega
          · have hge : decide ((n : Int) ≤ (xn : Int)) = false := decide_eq_false (by omega)
            have HKEEP := Lib.hid (st_keep (x := (xn, key)) HS.out HSND.out hle)
            refine wp_region_facts [Fact.eq (.bool true),
                Fact.eq (.bool false),
                Fact.eq (.bool false),
                Fact.eq (.slice (some ⟨B, o, none⟩) N cap),
                Fact.eq (.int .i64 m),
                Fact.eq (.pointer (some ⟨B, o + m * 4, none⟩)),
                Fact.eq (.pointer (some ⟨B, o + m * 4, none⟩)),
                Fact.eq (.int .u64 n),
                Fact.eq (.slice (some ⟨B, o, none⟩) N cap),
                Fact.eq (.int .i64 k),
                Fact.eq (.pointer (some ⟨B, o + k * 4, none⟩)),
                Fact.eq (.pointer (some ⟨B, o + k * 4, none⟩)),
                Fact.eq (.int .u64 xn),
                Fact.eq (.bool false),
                Fact.eq (.bool false)]
              [[], [(0, 31)], [(1, 32)], [(2, 33)], [(2, 33)], [(3, 34), (4, 35), (2, 33)], [(5, 36), (2, 33)], [(6, 37), (2, 33)], [(2, 33)], [(2, 33)], [(8, 39), (9, 40), (2, 33)], [(10, 41), (2, 33)], [(11, 42), (2, 33)], [(7, 38), (12, 43), (2, 33)], [(2, 33), (13, 44)]]
              [(0, 31), (1, 32), (2, 33), (3, 34), (4, 35), (5, 36), (6, 37), (7, 38), (8, 39), (9, 40), (10, 41), (11, 42), (12, 43), (13, 44), (14, 45)] (by kernel_rfl) (by kernel_rfl) ?_ ?_
            · refine ⟨?_, ?_, ?_, ?_, ?_, ?_, ?_, ?_, ?_, ?_, ?_, ?_, ?_, ?_, ?_, trivial⟩
              · intro w1 hx1; change wpList _ _ _ _ _ _; exact ob_move rfl rfl rfl rfl rfl
              · intro w1 hx1; rintro _ rfl; change wpList _ _ _ _ _ _; go_wp2_with fail; exact ⟨rfl, Ext.refl _, rfl, rfl⟩
              · intro w1 hx1; rintro _ rfl; change wpList _ _ _ _ _ _; exact ob_move rfl rfl rfl rfl rfl
              · intro w1 hx1; rintro _ rfl; change wpList _ _ _ _ _ _; exact ob_move rfl rfl rfl rfl rfl
              · intro w1 hx1; rintro _ rfl; change wpList _ _ _ _ _ _; exact ob_move rfl rfl rfl rfl rfl
              · intro w1 hx1; rintro _ rfl; rintro _ rfl; rintro _ rfl; change wpList _ _ _ _ _ _; go_wp2_with fail; exact ⟨rfl, Ext.refl _, rfl, rfl⟩
              · intro w1 hx1; rintro _ rfl; rintro _ rfl; change wpList _ _ _ _ _ _; go_wp2_with fail; exact ⟨rfl, Ext.refl _, rfl, rfl⟩
              · intro w1 hx1; rintro _ rfl; rintro _ rfl; change wpList _ _ _ _ _ _; have m0 := hx1.cell z0; go_wp2_with fail; exact ⟨rfl, Ext.refl _, rfl, rfl⟩
              · intro w1 hx1; rintro _ rfl; change wpList _ _ _ _ _ _; exact ob_move rfl rfl rfl rfl rfl
              · intro w1 hx1; rintro _ rfl; change wpList _ _ _ _ _ _; exact ob_move rfl rfl rfl rfl rfl
              · intro w1 hx1; rintro _ rfl; rintro _ rfl; rintro _ rfl; change wpList _ _ _ _ _ _; go_wp2_with fail; exact ⟨rfl, Ext.refl _, rfl, rfl⟩
              · intro w1 hx1; rintro _ rfl; rintro _ rfl; change wpList _ _ _ _ _ _; go_wp2_with fail; exact ⟨rfl, Ext.refl _, rfl, rfl⟩
              · intro w1 hx1; rintro _ rfl; rintro _ rfl; change wpList _ _ _ _ _ _; have m0 := hx1.cell f0; go_wp2_with fail; exact ⟨rfl, Ext.refl _, rfl, rfl⟩
              · intro w1 hx1; rintro _ rfl; rintro _ rfl; rintro _ rfl; change wpList _ _ _ _ _ _; go_wp2_with fail; exact ⟨rfl, Ext.refl _, rfl, rfl⟩
              · intro w1 hx1; rintro _ rfl; rintro _ rfl; change wpList _ _ _ _ _ _; exact ob_pick rfl rfl rfl rfl rfl rfl
            · intro w1 hx1; rintro _ rfl; rintro _ rfl; rintro _ rfl; rintro _ rfl; rintro _ rfl; rintro _ rfl; rintro _ rfl; rintro _ rfl; rintro _ rfl; rintro _ rfl; rintro _ rfl; rintro _ rfl; rintro _ rfl; rintro _ rfl; rintro _ rfl; refine depsThen_nil ?_; dsimp only; simp only [Act.put, List.setIfInBounds_toArray, List.set_cons_zero, List.set_cons_succ]
              have KT := Lib.hid (HT.out.ext hx1)
              have KX := Lib.hid (hx.out.trans hx1)
              clear HT f0 f2 z0 hx hx1
              go_wp2_with fail
              go_roundw
              case rel =>
                refine ⟨k + 1, hlt, by go_num, ⟨T, KT.out, ?_⟩, KX.out⟩
                rw [HSN.out]
                exact HKEEP.out
              case measure => simp [intOf]; omega
    · obtain rfl : k = N := by omega
      have hI : decide ((k : Int) < (k : Int)) = false := decide_eq_false (by omega)
      have htk : us.take k = us := List.take_of_length_le (by rw [HN.out]; exact Nat.le_refl _)
      have hs := hst.out
      rw [htk] at hs
      have HS := Lib.hid hs
      clear hs htk hst
      go_wp2_with fail
      go_ret
      obtain ⟨T, e1, e2⟩ := HS.out
      exact ⟨T, rfl, e1.num, e2, hx.out⟩
end Go.Proofs.Ytlgopjfnknjgjaa
