/- SegmentPuts, walked: whatever record and bytes of a bounded length it is handed it answers true and writes nothing that was there. -/
import Derived.Test.YtkaepcjkpaplfaaDoorQ5
import Derived.Test.YtkaepcjkpaplfaaDoorQ1
import Derived.Test.YtkaepcjkpaplfaaDoorN12
import Derived.Deep.DeepCutAuto
namespace Go.Proofs.YtkaepcjkpaplfaaDoor
open Go.RowKit

theorem flip255 (c : UInt8) : Value.int .u8 (bits .xor .u8 (c.toNat : Int) 255) = .int .u8 ((c ^^^ 255).toNat : Int) := by
  have := u8_xor_nat c.toNat 255 (byte_lt c) (by omega)
  rw [show ((255 : Int)) = ((255 : Nat) : Int) from rfl, this, UInt8.toNat_xor]; rfl
theorem RecL.below {W : World} {base : Nat} {us : List RS} {xs : List (Nat × List UInt8)} (h : RecL W base us xs) {p : Addr} (hp : p.block < base) (u : Value) : RecL (W.setCell p u) base us xs :=
  ⟨h.1, fun i x y h1 h2 => ⟨(h.2 i x y h1 h2).1, ownsRow_setCell_below (h.2 i x y h1 h2).2 hp u⟩⟩
theorem OwnB.len {w : World} {base n cap : Nat} {a : Option Addr} {l : List UInt8} (h : OwnB w base (.slice a n cap) l) : n = l.length := by
  obtain ⟨a', c', e, -, -⟩ := h.bytes.shape
  simp only [Value.slice.injEq] at e
  exact e.2.1

theorem Lst.of_row {W : World} {base : Nat} {t : TypeId} {v : Value} {us : List RS} {xs : List (Nat × List UInt8)} (h : W.ownsRow base t 2 v us.length (rsC us)) (hr : RecL W base us xs) : Lst W v xs :=
  ⟨us, Row.of_own h, hr.1, fun i u x e1 e2 => ⟨(hr.2 i u x e1 e2).1, (hr.2 i u x e1 e2).2.bytes⟩⟩

set_option maxRecDepth 100000 in
set_option maxHeartbeats 8000000 in
theorem segmentPuts_any (w : World) (n0 : Nat) (v1 vb : Value) (d b : List UInt8) (first : Nat) (h1 : Bytes w v1 d) (h2 : Bytes w vb b) (hd : d.length ≤ 1000000000000) (hb : b.length ≤ 100000000000) (h0 : n0 < 18446744073709551616) (h64 : first < 18446744073709551616) :
    Calls Tryd.prog 4 #[.agg #[.int .u64 n0, v1], vb, .int .u64 first] w fun e w' => e = .returned (.bool true) ∧ Ext w w' := by
  obtain ⟨a1, c1, rfl, hc1, hm1⟩ := h1.shape
  obtain ⟨ab, cb, rfl, hcb, hmb⟩ := h2.shape
  unfold maxLen at hm1 hmb
  have hxa : Ext w (w.alloc (.cells #[.int .u64 n0, .slice a1 d.length c1] 36)) := (Ext.refl w).alloc _
  have hc0 : (w.alloc (.cells #[.int .u64 n0, .slice a1 d.length c1] 36)).cell? ⟨w.heap.size, 0, none⟩ = some (.int .u64 n0) := cell_of_row _ w.heap.size 0 _ _ _ (heap_alloc_new _ _)
  have hc1' : (w.alloc (.cells #[.int .u64 n0, .slice a1 d.length c1] 36)).cell? ⟨w.heap.size, 1, none⟩ = some (.slice a1 d.length c1) := cell_of_row _ w.heap.size 1 _ _ _ (heap_alloc_new _ _)
  go_enter Tryd.func4, Tryd.ntmps4
  go_upto_region 1 with fail
  generalize w.alloc (.cells #[.int .u64 n0, .slice a1 d.length c1] 36) = wa at *
  generalize hpe : putS n0 d = PS at *
  have HPE := Lib.hid hpe
  clear hpe
  go_cut [7, 8] from 17 to 26 (fun v7 v8 wx => v8 = .int .i64 PS.2 ∧ Bytes wx v7 PS.1 ∧ Ext wa wx)
  case first =>
    have hxd : Ext w wa.drew := hxa.drew
    have hdr : Ext wa wa.drew := (Ext.refl wa).drew
    have k0 := hdr.cell hc0
    have k1 := hdr.cell hc1'
    have hd1 := h1.ext hxd
    have hdl : d.length ≤ 140737488355328 := by omega
    go_region_law (first | (refine step_call rfl ?_; go_simp; go_at_call 15; refine (own03_any _ _ d hd1 hdl).mono ?_; rintro e w2 ⟨v2, rfl, ho2, hx2⟩; have hq0 := hx2.cell k0; have hq1 := hx2.cell k1; have hb2 := ho2.bytes; obtain ⟨a2, c2, rfl, -, -⟩ := ho2.bytes.shape) | (refine step_call rfl ?_; go_simp; go_at_call 14; refine (sput_any _ n0 _ d hb2 h0).mono ?_; rw [HPE.out]; rintro e w3 ⟨v3, rfl, ho3, hx3⟩))
    all_goals
      go_wp2_with fail
      go_meet
      exact ⟨rfl, ho3.bytes, hdr.trans (hx2.trans hx3)⟩
  case rest =>
    obtain ⟨rfl, hb7, hxc⟩ := hcut
    obtain ⟨ax, cx, rfl, -, -⟩ := hb7.shape
    have q0 := hxc.cell hc0
    have q1 := hxc.cell hc1'
    have hdc : Bytes wc (.slice a1 d.length c1) d := h1.ext (hxa.trans hxc)
    have h2c := h2.ext (hxa.trans hxc)
    have hxwc := hxa.trans hxc
    obtain ⟨hd1500, h9⟩ := splitS_len (b := b) (first := first)
    clear hc0 hc1' h1 h2 hxa hxc
    go_wp2_with fail
    refine (rput12_any _ n0 _ d hdc h0).mono ?_
    rw [HPE.out]
    rintro e w4 ⟨v9, rfl, ho9, hx4⟩
    obtain ⟨ay, cy, rfl, -, -⟩ := ho9.bytes.shape
    have hb9 := ho9.bytes
    have hb74 := hb7.ext hx4
    have h24 := h2c.ext hx4
    clear ho9 hb7 h2c hdc q0 q1
    go_wp2_with fail
    refine (own03_any _ _ b h24 (by omega)).mono ?_
    rintro e w5 ⟨v11, rfl, ho11, hx5⟩
    obtain ⟨ao, co, rfl, -, hmo⟩ := ho11.bytes.shape
    unfold maxLen at hmo
    have hG : ∀ q, (Value.slice ao b.length co).ownBlock = some q → w4.heap.size ≤ q ∧ q < w5.heap.size := fun q hq => ho11.lt q hq
    have HG := Lib.hid hG
    clear hG
    go_wp2_with fail
    refine (ssplit_any _ _ b first ho11.bytes (by omega)).mono ?_
    rintro e w6 ⟨vl, us, rfl, hol, hrl, hx6⟩
    obtain ⟨al, cl, rfl⟩ := own_slice hol
    have h26 := h24.ext (hx5.trans hx6)
    go_wp2_with fail
    refine (rsplit12_any _ _ b first h26 (by omega) h64).mono ?_
    rintro e w7 ⟨vm, um, rfl, hom, hrm, hx7⟩
    obtain ⟨am, cm, rfl⟩ := own_slice hom
    have ho7 := ho11.ext (hx6.trans hx7)
    have hol7 := ownsRow_ext hol hx7
    have hrl7 := hrl.ext hx7
    have hx47 := hx5.trans (hx6.trans hx7)
    have hsz56 := hx6.size
    have HD := Lib.hid hd1500
    clear hd1500 ho11 hol hrl h26 h24 hx5 hx6 hx7
    generalize hS1 : (splitS b first).1 = S1 at *
    generalize (splitS b first).2 = S2 at *
    clear hS1
    generalize PS.1 = P1 at *
    generalize PS.2 = P2 at *
    go_wp2_with fail
    go_loopw [16, 48] (fun _ i wr => ∃ (k : Nat) (L : List UInt8), k ≤ b.length ∧ i = .int .i64 k ∧ Hid (L.length = b.length) ∧ OwnB wr w4.heap.size (.slice ao b.length co) L ∧ wr.ownsRow w5.heap.size 40 2 (.slice al us.length cl) us.length (rsC us) ∧ RecL wr w5.heap.size us S1 ∧
      wr.ownsRow w6.heap.size 36 2 (.slice am um.length cm) um.length (rsC um) ∧ RecL wr w6.heap.size um S1 ∧ Ext w4 wr) (fun _ i _ => b.length - (intOf i).toNat)
    case atStart => exact ⟨0, b, Nat.zero_le _, rfl, rfl, ho7, hol7, hrl7, hom, hrm, hx47⟩
    case round =>
      clear ho7 hol7 hrl7 hom hrm hx47
      obtain ⟨k, L, hk, rfl, hL, ho, hol, hrl, hom, hrm, hx⟩ := hrel
      by_cases hlt : k < b.length
      · have hkL : k < L.length := by rw [hL.out]; exact hlt
        obtain ⟨g, cap, e⟩ := OwnB.some ho hL.out (by omega)
        cases e
        obtain ⟨hg1, hg2⟩ := HG.out g rfl
        obtain ⟨hcell, hfr⟩ := OwnB.at ho hkL
        have hset := OwnB.set ho hkL (L[k] ^^^ 255)
        have hbl := byte_lt L[k]
        have hfz := Lib.hid (flip255 L[k])
        have hLs : Hid ((L.set k (L[k] ^^^ 255)).length = b.length) := by show _ = _; rw [List.length_set]; exact hL.out
        generalize L.set k (L[k] ^^^ 255) = L2 at *
        generalize L[k] = c at *
        go_wp2_with fail
        rw [hfz.out]
        go_roundw
        case rel => exact ⟨k + 1, L2, hlt, by go_num, hLs, hset, ownsRow_setCell_below hol hg2 _, hrl.below hg2 _, ownsRow_setCell_below hom (Nat.lt_of_lt_of_le hg2 hsz56) _, hrm.below (Nat.lt_of_lt_of_le hg2 hsz56) _, hx.setCell hg1 _⟩
        case measure => simp [intOf]; omega
      · obtain rfl : k = b.length := by omega
        have hLl := Lst.of_row hol hrl
        have hLm := Lst.of_row hom hrm
        have hul := hrl.1
        have hum := hrm.1
        have HUL := Lib.hid hul
        have HUM := Lib.hid hum
        have hy7 := hb74.ext hx
        have hy9 := hb9.ext hx
        have hxw := hxwc.trans (hx4.trans hx)
        have hn11 : S1.length ≤ 100000000000 := by omega
        clear hul hum hol hom hrl hrm ho HG hL
        go_wp2_with fail
        refine (awake_any _).mono ?_
        rintro e w8 ⟨rfl, hx8⟩
        go_wp2_with fail
        refine (bequal_any _ _ _ P1 P1 (hy7.ext hx8) (hy9.ext hx8)).mono ?_
        rintro e w9 ⟨rfl, hx9⟩
        rw [decide_eq_true rfl]
        have hx89 := hx8.trans hx9
        have hLl9 := hLl.ext hx89
        have hLm9 := hLm.ext hx89
        go_wp2_with fail
        refine (theirs_any _ _ S1 hLl9 hn11).mono ?_
        rintro e wA ⟨vt, rfl, hLt, hxA⟩
        go_wp2_with fail
        refine (rsame12_any _ _ _ S1 hLt (hLm9.ext hxA)).mono ?_
        rintro e wB ⟨rfl, hxB⟩
        have hxAB := hxA.trans hxB
        go_wp2_with fail
        refine (ours_any _ _ S1 (hLm9.ext hxAB) hn11 HD.out).mono ?_
        rintro e wC ⟨vo, rfl, hLo, hxC⟩
        go_wp2_with fail
        refine (segsame_any _ _ _ S1 S1 (hLl9.ext (hxAB.trans hxC)) hLo).mono ?_
        rintro e wD ⟨rfl, hxD⟩
        rw [decide_eq_true rfl]
        go_wp2_with fail
        go_ret
        exact ⟨rfl, hxw.trans (hx89.trans (hxAB.trans (hxC.trans hxD)))⟩

end Go.Proofs.YtkaepcjkpaplfaaDoor
