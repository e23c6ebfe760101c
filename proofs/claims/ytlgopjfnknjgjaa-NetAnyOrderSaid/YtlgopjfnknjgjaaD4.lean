/- Stays (13): the items of which the closure says no. -/
import Derived.Test.YtlgopjfnknjgjaaD3
import Derived.Test.YtlgopjfnknjgjaaZ3
import Derived.Test.YtlgopjfnknjgjaaY1
namespace Go.Proofs.Ytlgopjfnknjgjaa
open Go.RowKit Go.MapKept

theorem info33t : (Try.prog.info? 33).map (fun i => (i.zero, i.size, i.bytes)) = some (some (.agg #[.int .u64 0, .int .u64 0, .string ⟨#[]⟩, .slice none 0 0]), 4, 56) := by kernel_rfl
theorem it_row (w : World) (n t : Nat) (key : List UInt8) (a : Option Addr) (m c : Nat) : Row (w.alloc (.cells #[.int .u64 n, .int .u64 t, .string (strOf key), .slice a m c] 33)) 4 (.slice (some ⟨w.heap.size, 0, none⟩) 1 1) 1 [.int .u64 n, .int .u64 t, .string (strOf key), .slice a m c] :=
  Row.of_own (World.ownsRow_lit (base := w.heap.size) (e := 33) (size := 4) w #[.int .u64 n, .int .u64 t, .string (strOf key), .slice a m c] 1 (Nat.le_refl _) (by decide) rfl)
theorem it_one (n t : Nat) (key : List UInt8) (a : Option Addr) (m c : Nat) : ∀ u ∈ [Value.int .u64 n, .int .u64 t, .string (strOf key), .slice a m c], u.oneCell' = true := by
  intro u hu
  simp only [List.mem_cons, List.not_mem_nil, or_false] at hu
  rcases hu with rfl | rfl | rfl | rfl <;> rfl
def staysI (us : List IT) : List IT := pickF (fun i => !goesF (us.map nkOf) i) us

set_option maxRecDepth 100000 in
set_option maxHeartbeats 8000000 in
theorem stays_any (w : World) (vl : Value) (us : List IT) (hi : ItemR w vl us) (hlen : us.length ≤ 1000000) :
    Calls Try.prog 13 #[vl] w fun e w' => ∃ v, e = .returned v ∧ w'.ownsRow w.heap.size 33 4 v (staysI us).length ((staysI us).flatMap iC) ∧ Ext w w' := by
  obtain ⟨a, cap, rfl, hc, hmx⟩ := hi.shape
  unfold maxLen at hmx
  have hp := parted_any w _ us hi
  have HP := Lib.hid hp
  have HI := Lib.hid hi
  clear hp hi
  generalize hN : us.length = N at *
  have HN := Lib.hid hN
  clear hN
  go_enter Try.func13, Try.ntmps13
  go_wp2_with (refine HP.out.mono ?_; rintro e w1 ⟨bl, bm, b, E, rfl, hbl, hbm, hme, hmo, hx⟩; have HBL := Lib.hid hbl; have HBM := Lib.hid hbm; have HME := Lib.hid hme; have HMO := Lib.hid hmo; have HX := Lib.hid hx; clear hbl hbm hme hmo hx)
  go_loopw [3, 11] (fun v i wr => ∃ k : Nat, k ≤ N ∧ i = .int .i64 k ∧ Hid (wr.ownsRow w1.heap.size 33 4 v (pickK (fun i => !goesF (us.map nkOf) i) us k).length ((pickK (fun i => !goesF (us.map nkOf) i) us k).flatMap iC)) ∧ Hid (Ext w1 wr)) (fun _ i _ => N - (intOf i).toNat)
  case atStart => exact ⟨0, Nat.zero_le _, rfl, own_none _ _ _ _, Ext.refl w1⟩
  case round =>
    obtain ⟨k, hk, rfl, hown, hxr⟩ := hrel
    by_cases hlt : k < N
    · have hI : decide ((k : Int) < (N : Int)) = true := decide_eq_true (by omega)
      have hkl : k < us.length := by rw [HN.out]; exact hlt
      obtain ⟨B, o, rfl, f0, f1, f2, f3⟩ := (HI.out.ext (HX.out.trans hxr.out)).at hkl
      obtain ⟨ha, hn, hcc, hh⟩ := HI.out.hs us[k] (List.getElem_mem hkl)
      rw [hh] at f3
      have hpl := pickK_le (fun i => !goesF (us.map nkOf) i) us k
      have hnk : iC us[k] = [.int .u64 us[k].n, .int .u64 us[k].t, .string (strOf us[k].key), .slice ha hn hcc] := by unfold iC; rw [hh]
      have hxa := (boxes1 wr (.cells #[.int .u64 us[k].n, .int .u64 us[k].t, .string (strOf us[k].key), .slice ha hn hcc] 33)).1
      have hX := (boxes1 wr (.cells #[.int .u64 us[k].n, .int .u64 us[k].t, .string (strOf us[k].key), .slice ha hn hcc] 33)).2
      have hxx := hxr.out.trans hxa
      have hcall := goes_any _ bl bm b _ us E (block_later HBL.out hxx) (block_later HBM.out hxx) (HI.out.ext (HX.out.trans hxx)) (HME.out.ext hxx) HMO.out k hkl
      cases hg : goesF (us.map nkOf) k with
      | false =>
        have hst := pickK_yes (p := fun i => !goesF (us.map nkOf) i) hkl (by rw [hg]; rfl)
        rw [hg] at hcall
        have HST := Lib.hid hst
        have HC := Lib.hid hcall
        have HNK := Lib.hid hnk
        clear hst hcall hnk hg hh
        generalize us[k] = x at *
        generalize pickK (fun i => !goesF (us.map nkOf) i) us k = pr at *
        go_upto_region 7 with ((with_reducible refine HC.out.mono ?_); rintro e w2 ⟨rfl, hx2⟩; have HX2 := Lib.hid hx2; have x0 := hx2.cell (cell_of_row _ _ 0 _ _ _ hX); have x1 := hx2.cell (cell_of_row _ _ 1 _ _ _ hX); have x2 := hx2.cell (cell_of_row _ _ 2 _ _ _ hX); have x3 := hx2.cell (cell_of_row _ _ 3 _ _ _ hX); have HXR := Lib.hid (hxx.trans hx2); have HOW := Lib.hid (own_ext (own_ext hown.out hxa) hx2); clear hx2 hxx hxa hX f0 f1 f2 f3 hown hxr)
        have hrow := it_row w2 x.n x.t x.key ha hn hcc
        have hxa := (boxes1 w2 (.cells #[.int .u64 x.n, .int .u64 x.t, .string (strOf x.key), .slice ha hn hcc] 33)).1
        have HROW := Lib.hid hrow
        have HO := Lib.hid (own_ext HOW.out hxa)
        have HXA := Lib.hid (HXR.out.trans hxa)
        have HBASE := Lib.hid HXA.out.size
        clear hrow hxa HX2 HOW HXR
        have hb1 : (pr.length + 1) * 56 ≤ 140737488355328 := by omega
        have hb2 : pr.length + 1 ≤ maxLen := by unfold maxLen; omega
        go_wp2_with (at_builtin; go_loud (refine wpList_append_row 22 33 (.tmp 20) (.tmp 22) rfl w1.heap.size _ 4 56 Try.underlying22 info33t rfl (by decide) rfl _ pr.length (pr.flatMap iC) rfl HO.out 1 [.int .u64 x.n, .int .u64 x.t, .string (strOf x.key), .slice ha hn hcc] HROW.out (it_one _ _ _ _ _ _) hb1 hb2 HBASE.out ?_); intro v' w3 hown2 hg; have HO2 := Lib.hid hown2; have HX3 := Lib.hid (HXA.out.grown_none hg (own_base HO.out)); clear hown2 hg)
        go_roundw
        case rel =>
          refine ⟨k + 1, hlt, by go_num, ?_, HX3.out⟩
          show World.ownsRow _ _ _ _ _ _ _
          rw [HST.out, List.length_append, List.flatMap_append]
          have := HO2.out
          simpa [HNK.out] using this
        case measure => simp [intOf]; omega
      | true =>
        have hst := pickK_no (p := fun i => !goesF (us.map nkOf) i) hkl (by rw [hg]; rfl)
        rw [hg] at hcall
        have HST := Lib.hid hst
        have HC := Lib.hid hcall
        clear hst hcall hnk hg hh
        generalize us[k] = x at *
        generalize pickK (fun i => !goesF (us.map nkOf) i) us k = pr at *
        go_wp2_with ((with_reducible refine HC.out.mono ?_); rintro e w2 ⟨rfl, hx2⟩; have HXR := Lib.hid (hxx.trans hx2); have HOW := Lib.hid (own_ext (own_ext hown.out hxa) hx2); clear hx2 hxx hxa hX f0 f1 f2 f3 hown hxr)
        go_roundw
        case rel =>
          refine ⟨k + 1, hlt, by go_num, ?_, HXR.out⟩
          show World.ownsRow _ _ _ _ _ _ _
          rw [HST.out]
          exact HOW.out
        case measure => simp [intOf]; omega
    · obtain rfl : k = N := by omega
      have hI : decide ((k : Int) < (k : Int)) = false := decide_eq_false (by omega)
      have ho := own_low hown.out HX.out.size
      have e : pickK (fun i => !goesF (us.map nkOf) i) us k = staysI us := by rw [← HN.out]; rfl
      rw [e] at ho
      have HO := Lib.hid ho
      clear ho e hown
      go_wp2_with fail
      go_ret
      exact ⟨_, rfl, HO.out, HX.out.trans hxr.out⟩
end Go.Proofs.Ytlgopjfnknjgjaa
