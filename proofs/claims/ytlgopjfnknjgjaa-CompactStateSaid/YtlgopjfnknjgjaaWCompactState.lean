/- CompactState, walked. -/
import Derived.Test.YtlgopjfnknjgjaaWCompactOrder
import Derived.Test.YtlgopjfnknjgjaaD14
namespace Go.Proofs.Ytlgopjfnknjgjaa
open Go.RowKit Go.MapKept

def eSeen (ks : List (List UInt8)) : List (Value × Value) := ks.map fun k => (.string (strOf k), .int .i64 1)
theorem eSeen_snoc (ks : List (List UInt8)) (k : List UInt8) : eSeen (ks ++ [k]) = eSeen ks ++ [(.string (strOf k), .int .i64 1)] := by unfold eSeen; rw [List.map_append]; rfl
theorem eSeen_no {ks : List (List UInt8)} {k : List UInt8} (h : k ∉ ks) : ∀ p ∈ eSeen ks, p.1 ≠ Value.string (strOf k) := fun p hp e => by
  obtain ⟨x, hx, rfl⟩ := List.mem_map.1 hp
  have : x = k := strOf_inj.1 (by simpa using e)
  exact h (this ▸ hx)
theorem eSeen_put {w' : World} {b : Nat} {ks : List (List UInt8)} {k : List UInt8} (h : k ∉ ks) (hp : ((∀ p ∈ eSeen ks, p.1 ≠ Value.string (strOf k)) ∧ MapE w' b .string (eSeen ks ++ [(.string (strOf k), .int .i64 1)])) ∨ ∃ (j : Nat) (u : Value), (eSeen ks)[j]? = some (.string (strOf k), u) ∧ MapE w' b .string ((eSeen ks).set j (.string (strOf k), .int .i64 1))) : MapE w' b .string (eSeen (ks ++ [k])) := by
  rcases hp with ⟨_, hp⟩ | ⟨j, u, hj, _⟩
  · rw [eSeen_snoc]; exact hp
  · exact absurd rfl (eSeen_no h _ (List.mem_of_getElem? hj))
theorem eNum_mem {T : List (List UInt8 × Nat × Nat)} {k v : Value} (h : (k, v) ∈ eNum T) : ∃ t ∈ T, k = .string (strOf t.1) ∧ v = .int .u64 (t.2.2 : Nat) := by
  obtain ⟨t, ht, e⟩ := List.mem_map.1 h
  simp only [Prod.mk.injEq] at e
  exact ⟨t, ht, e.1.symm, e.2.symm⟩
theorem eNum_in {T : List (List UInt8 × Nat × Nat)} {k : List UInt8} {m n : Nat} (h : (k, m, n) ∈ T) : (Value.string (strOf k), Value.int .u64 (n : Nat)) ∈ eNum T := List.mem_map.2 ⟨_, h, rfl⟩
theorem eNum_len (T : List (List UInt8 × Nat × Nat)) : (eNum T).length = T.length := by unfold eNum; rw [List.length_map]
theorem eSeen_len (ks : List (List UInt8)) : (eSeen ks).length = ks.length := by unfold eSeen; rw [List.length_map]

theorem rise_at (l : List NK) (i x y : Nat) (h1 : (doublesF l)[i]? = some x) (h2 : (doublesF l)[i + 1]? = some y) : x ≤ y := by
  obtain ⟨l1, e1⟩ := List.getElem?_eq_some_iff.1 h1
  obtain ⟨l2, e2⟩ := List.getElem?_eq_some_iff.1 h2
  rw [← e1, ← e2]
  exact doubles_rise l l2
theorem notin_at (q : List IT) (k : Nat) (x : IT) (h : (staysI q)[k]? = some x) (hk : x.key ≠ []) : x.key ∉ keysI ((staysI q).take k) := by
  obtain ⟨l1, e1⟩ := List.getElem?_eq_some_iff.1 h
  subst e1
  exact keysI_notin l1 hk

theorem styS_is (W : World) (v : Value) (us S : List IT) (hi : ItemR W v us) (hl : us.length ≤ 500) (he : staysI us = S) :
    Calls Try.prog 13 #[v] W fun e w' => ∃ a c, e = .returned (.slice a S.length c) ∧ ItemR w' (.slice a S.length c) S ∧ Ext W w' := by
  refine (stays_any W v us hi (by omega)).mono ?_
  rintro e w' ⟨v', rfl, h1, h2⟩
  rw [he] at h1
  obtain ⟨a, c, rfl, _, _⟩ := own_shape h1
  exact ⟨a, c, rfl, ⟨Row.of_own h1, fun x hx => hi.hs x (stays_mem us x (by rw [he]; exact hx))⟩, h2⟩

set_option maxRecDepth 100000 in
set_option maxHeartbeats 8000000 in
theorem compactState_walk (w : World) (vl : Value) (us : List IT) (hi : ItemR w vl us) (hb : ∀ x ∈ us, okI x) : Calls Try.prog 4 #[vl] w fun e w' => e = .returned (.bool true) ∧ Ext w w' := by
  obtain ⟨a, cap, rfl, hc, hmx⟩ := hi.shape
  unfold maxLen at hmx
  have hr := hi.row
  generalize hN : us.length = N at *
  obtain ⟨m, hm⟩ : ∃ m, m = min N 300 := ⟨_, rfl⟩
  have qm : min (N : Int) 300 = (m : Int) := by omega
  have hql : (us.take m).length = m := by rw [List.length_take]; omega
  have hqb : ∀ x ∈ us.take m, x.n < 18446744073709551616 := fun x hx => (hb x (List.mem_of_mem_take hx)).1
  have hqh : ∀ x ∈ us.take m, ∃ a n c, x.h = .slice a n c := fun x hx => (hb x (List.mem_of_mem_take hx)).2
  have hm1 : m ≤ 300 := by omega
  have hm2 : m ≤ N := by omega
  have HR := Lib.hid hr
  have HQL := Lib.hid hql
  have HQB := Lib.hid hqb
  have HQH := Lib.hid hqh
  clear hi hb hN hm hr hql hqb hqh
  generalize ht : us.take m = q at *
  have HT := Lib.hid ht
  clear ht
  go_enter Try.func4, Try.ntmps4
  go_upto_region 2 with (first
    | (refine wpList_min2 (.tmp 20) (.const (.int .i64 300)) _ rfl rfl _ _ m rfl rfl qm ?_)
    | (refine iCut (.tmp 18) none (some (.tmp 21)) us N 0 m rfl rfl HR.out rfl ⟨_, _, rfl, by omega, by omega⟩ (Nat.zero_le _) hm2 ?_; intro v12 h12; rw [List.drop_zero, HT.out, Nat.sub_zero] at h12; obtain ⟨al, cl, rfl, _, _⟩ := Row.shape h12; have H12 := Lib.hid h12; clear h12))
  have HI := Lib.hid (show ItemR w (.slice al m cl) q from ⟨by rw [HQL.out]; exact H12.out, HQH.out⟩)
  clear HR HT H12 qm
  go_upto_region 3 with (first
    | (go_at_call 13; (with_reducible refine (styS_is _ _ q _ HI.out (by rw [HQL.out]; omega) rfl).mono ?_); rintro e wA ⟨a5, c5, rfl, h, hx⟩; have HS := Lib.hid h; have HXA := Lib.hid hx; clear h hx)
    | (go_at_call 12; (with_reducible refine (dbl_is _ _ q _ (HI.out.ext HXA.out) (by rw [HQL.out]; omega) HQB.out rfl).mono ?_); rintro e wB ⟨ad, cd, rfl, h, hx⟩; have HD := Lib.hid h; have HXB := Lib.hid (HXA.out.trans hx); have HSB := Lib.hid (HS.out.ext hx); clear h hx HS))
  have hboth := both_all q
  have hrise : ∀ (i x y : Nat), (doublesF (q.map nkOf))[i]? = some x → (doublesF (q.map nkOf))[i + 1]? = some y → x ≤ y := rise_at _
  have hslen := HSB.out
  have hkn : ∀ (k : Nat) (x : IT), (staysI q)[k]? = some x → x.key ≠ [] → x.key ∉ keysI ((staysI q).take k) := notin_at q
  have hsame := bare_same q
  have HST1 : Hid (∀ T T', StOf (q.map nkOf) T → StOf ((staysI q).map nkOf) T' → (∀ t ∈ T, ∃ m', (t.1, m', t.2.2) ∈ T') ∧ T.length = T'.length ∧ (keysI (staysI q)).length = T'.length) := fun T T' h h' => ⟨state_keeps h h', state_same_len h h', keys_len h'⟩
  rw [HQL.out] at hboth
  have HRISE := Lib.hid hrise
  have HKN := Lib.hid hkn
  have HSAME := Lib.hid hsame
  clear hrise hkn hsame hslen
  generalize staysI q = S at *
  generalize doublesF (q.map nkOf) = D at *
  generalize hsl : S.length = sl at *
  generalize hdl : D.length = dl at *
  have HSL := Lib.hid hsl
  have HDL := Lib.hid hdl
  have hbI : (sl : Int) + (dl : Int) = (m : Int) := by omega
  have hsm : sl ≤ m := by omega
  have hdm : dl ≤ m := by omega
  clear hsl hdl hboth
  go_upto_region 4 with (first
    | (go_at_call 19; (with_reducible refine (state_any _ _ q (HI.out.ext HXB.out)).mono ?_); rintro e wC ⟨T, rfl, hm, hst, hx⟩; have HMC := Lib.hid hm; have HT := Lib.hid hst; have HXC := Lib.hid hx; clear hm hst hx)
    | (go_at_call 19; (with_reducible refine (state_any _ _ S (HSB.out.ext HXC.out)).mono ?_); rintro e wD ⟨T', rfl, hm, hst, hx⟩; have HMD := Lib.hid hm; have HT' := Lib.hid hst; have HXD := Lib.hid hx; clear hm hst hx))
  obtain ⟨hk1, hk2, hk3⟩ := HST1.out T T' HT.out HT'.out
  have HK1 := Lib.hid hk1
  have HMC2 := Lib.hid (HMC.out.ext HXD.out)
  have HE1 := Lib.hid ((eNum_len T).trans hk2)
  have HE2 := Lib.hid (eNum_len T')
  have HK3 := Lib.hid hk3
  have HXE := Lib.hid (HXC.out.trans HXD.out)
  clear hk1 hk2 hk3 HST1 HT HT' HMC HXC HXD
  generalize hb1 : wB.heap.size = b1 at *
  generalize hb2 : wC.heap.size = b2 at *
  generalize htl : T'.length = tl at *
  clear hb1 hb2 htl
  go_upto_region 6 with (first
    | (refine wpList_lenE (.tmp 31) 36 rfl rfl Try.underlying36 rfl HMC2.out HE1.out ?_)
    | (refine wpList_lenE (.tmp 33) 36 rfl rfl Try.underlying36 rfl HMD.out HE2.out ?_))
  have HIQ := Lib.hid (HI.out.ext (HXB.out.trans HXE.out))
  have HIS := Lib.hid (HSB.out.ext HXE.out)
  have HDD := Lib.hid (UR.ext HD.out HXE.out)
  have HXZ := Lib.hid (HXB.out.trans HXE.out)
  clear HI HSB HD HXB HXE HXA HQB HQH
  go_wp2_with (at_range; refine wpList_rangeE rfl (.tmp 46) 36 rfl Try.underlying36 rfl HMC2.out ?_; intro w5 hrg hx; have HRG := Lib.hid hrg; have HX5 := Lib.hid hx; clear hrg hx)
  go_frame
  go_loopw [7] (fun _ wr => ∃ left, Hid (RangeE wr wD.heap.size b1 .string (eNum T) left) ∧ Hid (Ext wD wr) ) (fun _ wr => wr.rangeLeft b1 wD.heap.size)
  case atStart => exact ⟨_, HRG.out, HX5.out⟩
  case round =>
    clear HRG HX5
    obtain ⟨left, hrg, hxr⟩ := hrel
    have HZ : Hid (∀ w, (zeroValue 28).run Try.prog w = .ok (.int .u64 0) w) := fun _ => by kernel_rfl
    go_wp2_with (at_next; refine wpList_nextE rfl (.tmp 47) rfl rfl hrg.out ?_ ?_)
    · intro _
      obtain ⟨wE, rfl⟩ : ∃ x : World, x = wr := ⟨_, rfl⟩
      have hmk : (Instr.makeMap 39 none).run Try.prog wE = .ok (.map (some wE.heap.size)) (wE.alloc (.map #[] 0)) := run_makeMap (P := Try.prog) 39 wE
      have HS0 := Lib.hid (MapE.made wE .string)
      have HX0 := Lib.hid (hxr.out.trans ((Ext.refl wE).alloc (.map #[] 0)))
      have HBS : Hid (wD.heap.size ≤ wE.heap.size) := hxr.out.size
      clear hrg hxr
      go_wp2_with fail
      clear hmk
      generalize wE.alloc (.map #[] 0) = w7 at *
      generalize wE.heap.size = bs at *
      go_loopw [12, 14] (fun v i wr => ∃ k : Nat, k ≤ sl ∧ i = .int .i64 k ∧ (∃ c : Nat, v = .int .i64 c ∧ c ≤ k ∧ Hid (c = bareI (S.take k))) ∧ Hid (MapE wr bs .string (eSeen (keysI (S.take k)))) ∧ Hid (Ext wD wr)) (fun _ i _ => sl - (intOf i).toNat)
      case atStart => exact ⟨0, Nat.zero_le _, rfl, ⟨0, rfl, Nat.le_refl _, rfl⟩, HS0.out, HX0.out⟩
      case round =>
        clear HS0 HX0
        obtain ⟨k, hk, rfl, ⟨c, rfl, hck, hcb⟩, hms, hxr⟩ := hrel
        by_cases hlt : k < sl
        · have hI : decide ((k : Int) < (sl : Int)) = true := decide_eq_true (by omega)
          have hkN : (k : Int) < (sl : Int) := by omega
          have hkl : k < S.length := by rw [HSL.out]; exact hlt
          obtain ⟨B, o, ea, f0, f1, f2, f3⟩ := (HIS.out.ext hxr.out).at hkl
          subst ea
          have hgk : S[k]? = some S[k] := List.getElem?_eq_getElem hkl
          have hno := HKN.out k _ hgk
          have hb1 := fun h => bareI_yes hkl h
          have hb2 := fun h => bareI_no hkl h
          have hk1 := fun h => keysI_yes hkl h
          have hk2 := fun h => keysI_no hkl h
          have HNO := Lib.hid hno
          have HB1 := Lib.hid hb1
          have HB2 := Lib.hid hb2
          have HKY := Lib.hid hk1
          have HKNO := Lib.hid hk2
          have hne : (S[k].key == []) = S[k].key.isEmpty := by cases S[k].key <;> rfl
          clear hgk hno hb1 hb2 hk1 hk2 f0 f1 f3
          generalize S[k].key = key at *
          clear hkl
          cases hke : key.isEmpty with
          | true =>
            obtain rfl : key = [] := List.isEmpty_iff.1 hke
            clear hne hke
            go_wp2_with fail
            go_roundw
            case rel =>
              refine ⟨k + 1, hlt, by go_num, ⟨c + 1, by go_num, by omega, ?_⟩, ?_, hxr⟩
              · show c + 1 = _
                rw [HB1.out rfl, ← hcb.out]
              · rw [HKNO.out rfl]; exact hms
            case measure => simp [intOf]; omega
          | false =>
            have hkb : (key == []) = false := by rw [hne]; exact hke
            have hk0 : Hid (key ≠ []) := fun e => by rw [e] at hke; cases hke
            clear hne hke
            have hnot := HNO.out hk0.out
            have hlook := (hms.out.unknown (P := Try.prog) (t := 39) (e := 3) (z := .int .i64 0) Try.underlying39 Try.underlying9 (by kernel_rfl) (key := .string (strOf key)) trivial (eSeen_no hnot)).1
            have HNOT := Lib.hid hnot
            clear hnot
            go_upto_region 22 with fail
            clear hlook
            go_wp2_with (refine wpList_put rfl (.tmp 87) (.tmp 88) (.const (.int .i64 1)) 39 rfl Try.underlying39 Try.underlying9 rfl hms.out trivial ?_; intro w8 hbut hput; have HBUT := Lib.hid hbut; have HPUT := Lib.hid (eSeen_put HNOT.out hput); clear hbut hput)
            go_roundw
            case rel =>
              refine ⟨k + 1, hlt, by go_num, ⟨c, rfl, by omega, ?_⟩, ?_, HBUT.out.ext hxr.out HBS.out⟩
              · show c = _
                rw [HB2.out hk0.out]; exact hcb.out
              · rw [HKY.out hk0.out]; exact HPUT.out
            case measure => simp [intOf]; omega
        · obtain rfl : sl = k := by omega
          have hI : decide ((sl : Int) < (sl : Int)) = false := decide_eq_false (by omega)
          obtain ⟨wF, rfl⟩ : ∃ x : World, x = wr := ⟨_, rfl⟩
          have hms2 := hms.out
          have hcb2 := hcb.out
          rw [List.take_of_length_le (by rw [HSL.out]; exact Nat.le_refl _)] at hms2 hcb2
          have HSN := Lib.hid hms2
          have HCB := Lib.hid (hcb2.trans HSAME.out)
          have HLS := Lib.hid ((eSeen_len (keysI S)).trans HK3.out)
          have HIF := Lib.hid (HIQ.out.ext hxr.out)
          have HDF := Lib.hid (UR.ext HDD.out hxr.out)
          have HMF := Lib.hid (HMC2.out.ext hxr.out)
          have HXF := Lib.hid (HXZ.out.trans hxr.out)
          clear hms hcb hms2 hcb2 hxr HIQ HDD HMC2 HXZ HKN HIS HMD
          go_upto_region 24 with fail
          go_loop [13, 16] (fun v i => ∃ k : Nat, k ≤ m ∧ i = .int .i64 k ∧ (∃ d : Nat, v = .int .i64 d ∧ d ≤ k ∧ Hid (d = bareI (q.take k)))) (fun _ i => m - (intOf i).toNat)
          case atStart => exact ⟨0, Nat.zero_le _, rfl, ⟨0, rfl, Nat.le_refl _, rfl⟩⟩
          case round =>
            obtain ⟨k, hk, rfl, ⟨d, rfl, hdk, hdb⟩⟩ := hrel
            by_cases hlt : k < m
            · have hI : decide ((k : Int) < (m : Int)) = true := decide_eq_true (by omega)
              have hkN : (k : Int) < (m : Int) := by omega
              have hkl : k < q.length := by rw [HQL.out]; exact hlt
              obtain ⟨B, o, ea, f0, f1, f2, f3⟩ := HIF.out.at hkl
              subst ea
              have hb1 := fun h => bareI_yes hkl h
              have hb2 := fun h => bareI_no hkl h
              have HB1 := Lib.hid hb1
              have HB2 := Lib.hid hb2
              have hne : (q[k].key == []) = q[k].key.isEmpty := by cases q[k].key <;> rfl
              clear hb1 hb2 f0 f1 f3
              generalize q[k].key = key at *
              clear hkl
              cases hke : key.isEmpty with
              | true =>
                obtain rfl : key = [] := List.isEmpty_iff.1 hke
                clear hne hke
                go_wp2_with fail
                go_round
                case rel =>
                  refine ⟨k + 1, hlt, by go_num, ⟨d + 1, by go_num, by omega, ?_⟩⟩
                  show d + 1 = _
                  rw [HB1.out rfl, ← hdb.out]
                case measure => simp [intOf]; omega
              | false =>
                have hkb : (key == []) = false := by rw [hne]; exact hke
                have hk0 : Hid (key ≠ []) := fun e => by rw [e] at hke; cases hke
                clear hne hke
                go_wp2_with fail
                go_round
                case rel =>
                  refine ⟨k + 1, hlt, by go_num, ⟨d, rfl, by omega, ?_⟩⟩
                  show d = _
                  rw [HB2.out hk0.out]; exact hdb.out
                case measure => simp [intOf]; omega
            · obtain rfl : m = k := by omega
              have hI : decide ((m : Int) < (m : Int)) = false := decide_eq_false (by omega)
              have hdb2 := hdb.out
              rw [List.take_of_length_le (by rw [HQL.out]; exact Nat.le_refl _)] at hdb2
              obtain rfl : c = d := HCB.out.trans hdb2.symm
              clear hdb hdb2 HCB HIF
              go_upto_region 29 with fail
              go_loopw [17] (fun i wr => ∃ k : Nat, k < m + 1 ∧ i = .int .i64 (k + 1 : Nat) ∧ (k + 1 ≤ dl ∨ k = 0) ∧ Hid (Ext wF wr)) (fun i _ => dl - (intOf i).toNat)
              case atStart => exact ⟨0, Nat.succ_pos _, rfl, .inr rfl, Ext.refl _⟩
              case round =>
                obtain ⟨k, hk, rfl, hkd, hxr⟩ := hrel
                by_cases hlt : k + 1 < dl
                · have hk1l : k + 1 < D.length := by rw [HDL.out]; exact hlt
                  have hk0l : k < D.length := Nat.lt_of_succ_lt hk1l
                  have hle := HRISE.out k _ _ (List.getElem?_eq_getElem hk0l) (List.getElem?_eq_getElem hk1l)
                  have hdr : UR wr (.slice ad dl cd) D := UR.ext HDF.out hxr.out
                  obtain ⟨B, o, ea, f0⟩ := hdr.at hk0l
                  obtain ⟨B2, o2, ea2, f1⟩ := hdr.at hk1l
                  subst ea
                  cases ea2
                  clear hdr
                  generalize D[k] = x at *
                  generalize D[k + 1] = y at *
                  obtain ⟨k1, hk1⟩ : ∃ k1, k1 = k + 1 := ⟨_, rfl⟩
                  rw [← hk1] at f1 hlt ⊢
                  have hI : decide ((k1 : Int) < (dl : Int)) = true := decide_eq_true (by omega)
                  have hkN : (k1 : Int) < (dl : Int) := by omega
                  have hkN0 : (k : Int) < (dl : Int) := by omega
                  have q1 : (k1 : Int) - 1 = (k : Int) := by omega
                  have hE : decide ((y : Int) < (x : Int)) = false := decide_eq_false (by omega)
                  have hE2 : decide (y < x) = false := decide_eq_false (by omega)
                  have HK1 := Lib.hid hk1
                  clear hk1 hle hk1l hk0l
                  go_upto_region 31 with fail
                  refine wp_region_facts [Fact.eq (.slice (some ⟨B, o, none⟩) dl cd),
                      Fact.eq (.int .i64 k1),
                      Fact.eq (.int .i64 k),
                      Fact.eq (.pointer (some ⟨B, o + k, none⟩)),
                      Fact.eq (.int .u64 x),
                      Fact.eq (.slice (some ⟨B, o, none⟩) dl cd),
                      Fact.eq (.int .i64 k1),
                      Fact.eq (.pointer (some ⟨B, o + k1, none⟩)),
                      Fact.eq (.int .u64 y),
                      Fact.eq (.bool false)]
                    [[], [], [(1, 111)], [(0, 110), (2, 112)], [(3, 113)], [], [], [(5, 115), (6, 116)], [(7, 117)], [(4, 114), (8, 118)]]
                    [(0, 110), (1, 111), (2, 112), (3, 113), (4, 114), (5, 115), (6, 116), (7, 117), (8, 118), (9, 119)] (by kernel_rfl) (by kernel_rfl) ?_ ?_
                  · refine ⟨?_, ?_, ?_, ?_, ?_, ?_, ?_, ?_, ?_, ?_, trivial⟩
                    · intro w1 hx1; change wpList _ _ _ _ _ _; exact ob_move rfl rfl rfl rfl rfl
                    · intro w1 hx1; change wpList _ _ _ _ _ _; exact ob_move rfl rfl rfl rfl rfl
                    · intro w1 hx1; rintro _ rfl; change wpList _ _ _ _ _ _; go_wp2_with fail; exact ⟨rfl, Ext.refl _, rfl, rfl⟩
                    · intro w1 hx1; rintro _ rfl; rintro _ rfl; change wpList _ _ _ _ _ _; go_wp2_with fail; exact ⟨rfl, Ext.refl _, rfl, rfl⟩
                    · intro w1 hx1; rintro _ rfl; change wpList _ _ _ _ _ _; have m0 := hx1.cell f0; go_wp2_with fail; exact ⟨rfl, Ext.refl _, rfl, rfl⟩
                    · intro w1 hx1; change wpList _ _ _ _ _ _; exact ob_move rfl rfl rfl rfl rfl
                    · intro w1 hx1; change wpList _ _ _ _ _ _; exact ob_move rfl rfl rfl rfl rfl
                    · intro w1 hx1; rintro _ rfl; rintro _ rfl; change wpList _ _ _ _ _ _; go_wp2_with fail; exact ⟨rfl, Ext.refl _, rfl, rfl⟩
                    · intro w1 hx1; rintro _ rfl; change wpList _ _ _ _ _ _; have m0 := hx1.cell f1; go_wp2_with fail; exact ⟨rfl, Ext.refl _, rfl, rfl⟩
                    · intro w1 hx1; rintro _ rfl; rintro _ rfl; change wpList _ _ _ _ _ _; go_wp2_with fail; exact ⟨rfl, Ext.refl _, rfl, rfl⟩
                  · intro w1 hx1; rintro _ rfl; rintro _ rfl; rintro _ rfl; rintro _ rfl; rintro _ rfl; rintro _ rfl; rintro _ rfl; rintro _ rfl; rintro _ rfl; rintro _ rfl; refine depsThen_nil ?_; dsimp only; simp only [Act.put, List.setIfInBounds_toArray, List.set_cons_zero, List.set_cons_succ]
                    have HXW := Lib.hid (hxr.out.trans hx1)
                    clear hx1
                    go_wp2_with fail
                    go_roundw
                    case rel => exact ⟨k1, by have := HK1.out; omega, by go_num, .inl (by omega), HXW.out⟩
                    case measure => simp [intOf]; have := HK1.out; omega
                · have hI : decide (((k + 1 : Nat) : Int) < (dl : Int)) = false := decide_eq_false (by omega)
                  have hcc : decide ((c : Int) = (c : Int)) = true := decide_eq_true rfl
                  have HSW := Lib.hid (HSN.out.ext hxr.out)
                  have HMW := Lib.hid (HMF.out.ext hxr.out)
                  have HXW := Lib.hid (HXF.out.trans hxr.out)
                  clear hxr
                  go_wp2_with (first
                    | (refine wpList_lenE (.tmp 124) 39 rfl rfl Try.underlying39 rfl HSW.out HLS.out ?_)
                    | (refine wpList_lenE (.tmp 126) 36 rfl rfl Try.underlying36 rfl HMW.out HE1.out ?_)
                    | (go_at_call 18; (with_reducible refine (wakes_any _).mono ?_); rintro e w9 ⟨rfl, hx⟩; have HX9 := Lib.hid hx; clear hx))
                  go_ret
                  exact ⟨rfl, HXW.out.trans HX9.out⟩
    · intro kv vv left' w6 hperm hin hrg6 hbut hen
      obtain ⟨t, ht, rfl, rfl⟩ := eNum_mem hin
      obtain ⟨m', hm'⟩ := HK1.out t ht
      have hx6 : Ext wD w6 := hbut.ext hxr.out (Nat.le_refl _)
      have hlook := ((HMD.out.ext hx6).known (P := Try.prog) (t := 36) (e := 28) Try.underlying36 Try.underlying9 (HZ.out _) (eNum_in hm')).2
      have HM2 := Lib.hid (RangeE.left_eq hrg.out)
      have hll := hperm.length_eq
      rw [List.length_cons] at hll
      have HRG6 := Lib.hid hrg6
      have HX6 := Lib.hid hx6
      clear hperm hin ht hm' hrg6 hbut hx6
      generalize t.2.2 = tn at *
      generalize t.1 = tk at *
      go_wp2_with fail
      go_roundw
      case rel => exact ⟨left', HRG6.out, HX6.out⟩
      case measure => rw [HRG6.out.left_eq, HM2.out]; omega
end Go.Proofs.Ytlgopjfnknjgjaa
