/- The document's Stays (17). -/
import Derived.Test.YtlgopjfnknjgjaaD5
namespace Go.Proofs.Ytlgopjfnknjgjaa
open Go.RowKit Go.MapKept

def rstaysI (us : List IT) : List IT := pickF (fun i => !goesR (us.map nkOf) i) us
theorem rstays_same (us : List IT) : rstaysI us = staysI us := by
  unfold rstaysI staysI
  congr 1
  funext i
  rw [goes_same]

set_option maxRecDepth 100000 in
set_option maxHeartbeats 8000000 in
theorem rstays_any (w : World) (vl : Value) (us : List IT) (hi : ItemR w vl us) (hlen : us.length ≤ 1000000) :
    Calls Try.prog 17 #[vl] w fun e w' => ∃ v, e = .returned v ∧ w'.ownsRow w.heap.size 33 4 v (staysI us).length ((staysI us).flatMap iC) ∧ Ext w w' := by
  obtain ⟨a, cap, rfl, hc, hmx⟩ := hi.shape
  unfold maxLen at hmx
  have HI := Lib.hid hi
  clear hi
  generalize hN : us.length = N at *
  have HN := Lib.hid hN
  clear hN
  go_enter Try.func17, Try.ntmps17
  go_wp2_with fail
  go_loopw [3, 4] (fun v i wr => ∃ k : Nat, k ≤ N ∧ i = .int .i64 k ∧ Hid (wr.ownsRow w.heap.size 33 4 v (pickK (fun i => !goesR (us.map nkOf) i) us k).length ((pickK (fun i => !goesR (us.map nkOf) i) us k).flatMap iC)) ∧ Hid (Ext w wr)) (fun _ i _ => N - (intOf i).toNat)
  case atStart => exact ⟨0, Nat.zero_le _, rfl, own_none _ _ _ _, Ext.refl w⟩
  case round =>
    obtain ⟨k, hk, rfl, hown, hxr⟩ := hrel
    by_cases hlt : k < N
    · have hI : decide ((k : Int) < (N : Int)) = true := decide_eq_true (by omega)
      have hkN : (k : Int) < (N : Int) := by omega
      have hkl : k < us.length := by rw [HN.out]; exact hlt
      have hpl := pickK_le (fun i => !goesR (us.map nkOf) i) us k
      have hcall := rgoes_any wr _ us (HI.out.ext hxr.out) k hkl
      cases hg : goesR (us.map nkOf) k with
      | false =>
        obtain ⟨B, o, rfl, f0, f1, f2, f3⟩ := (HI.out.ext hxr.out).at hkl
        obtain ⟨ha, hn, hcc, hh⟩ := HI.out.hs us[k] (List.getElem_mem hkl)
        rw [hh] at f3
        have hnk : iC us[k] = [.int .u64 us[k].n, .int .u64 us[k].t, .string (strOf us[k].key), .slice ha hn hcc] := by unfold iC; rw [hh]
        have hst := pickK_yes (p := fun i => !goesR (us.map nkOf) i) hkl (by rw [hg]; rfl)
        rw [hg] at hcall
        have HST := Lib.hid hst
        have HC := Lib.hid hcall
        have HNK := Lib.hid hnk
        clear hst hcall hnk hg hh
        generalize us[k] = x at *
        generalize pickK (fun i => !goesR (us.map nkOf) i) us k = pr at *
        go_upto_region 6 with ((with_reducible refine HC.out.mono ?_); rintro e w2 ⟨rfl, hx2⟩; have x0 := hx2.cell f0; have x1 := hx2.cell f1; have x2 := hx2.cell f2; have x3 := hx2.cell f3; have HXR := Lib.hid (hxr.out.trans hx2); have HOW := Lib.hid (own_ext hown.out hx2); clear hx2 f0 f1 f2 f3 hown hxr)
        have hrow := it_row w2 x.n x.t x.key ha hn hcc
        have hxa := (boxes1 w2 (.cells #[.int .u64 x.n, .int .u64 x.t, .string (strOf x.key), .slice ha hn hcc] 33)).1
        have HROW := Lib.hid hrow
        have HO := Lib.hid (own_ext HOW.out hxa)
        have HXA := Lib.hid (HXR.out.trans hxa)
        have HBASE := Lib.hid HXA.out.size
        clear hrow hxa HOW HXR
        have hb1 : (pr.length + 1) * 56 ≤ 140737488355328 := by omega
        have hb2 : pr.length + 1 ≤ maxLen := by unfold maxLen; omega
        go_wp2_with (at_builtin; (refine wpList_append_row 22 33 (.tmp 15) (.tmp 20) rfl w.heap.size _ 4 56 Try.underlying22 info33t rfl (by decide) rfl _ pr.length (pr.flatMap iC) rfl HO.out 1 [.int .u64 x.n, .int .u64 x.t, .string (strOf x.key), .slice ha hn hcc] HROW.out (it_one _ _ _ _ _ _) hb1 hb2 HBASE.out ?_); intro v' w3 hown2 hg; have HO2 := Lib.hid hown2; have HX3 := Lib.hid (HXA.out.grown_none hg (own_base HO.out)); clear hown2 hg)
        go_roundw
        case rel =>
          refine ⟨k + 1, hlt, by go_num, ?_, HX3.out⟩
          show World.ownsRow _ _ _ _ _ _ _
          rw [HST.out, List.length_append, List.flatMap_append]
          have := HO2.out
          simpa [HNK.out] using this
        case measure => simp [intOf]; omega
      | true =>
        have hst := pickK_no (p := fun i => !goesR (us.map nkOf) i) hkl (by rw [hg]; rfl)
        rw [hg] at hcall
        have HST := Lib.hid hst
        have HC := Lib.hid hcall
        clear hst hcall hg
        generalize pickK (fun i => !goesR (us.map nkOf) i) us k = pr at *
        go_wp2_with ((with_reducible refine HC.out.mono ?_); rintro e w2 ⟨rfl, hx2⟩; have HXR := Lib.hid (hxr.out.trans hx2); have HOW := Lib.hid (own_ext hown.out hx2); clear hx2 hown hxr)
        go_roundw
        case rel =>
          refine ⟨k + 1, hlt, by go_num, ?_, HXR.out⟩
          show World.ownsRow _ _ _ _ _ _ _
          rw [HST.out]
          exact HOW.out
        case measure => simp [intOf]; omega
    · obtain rfl : k = N := by omega
      have hI : decide ((k : Int) < (k : Int)) = false := decide_eq_false (by omega)
      have ho := hown.out
      have e : pickK (fun i => !goesR (us.map nkOf) i) us k = staysI us := by rw [← rstays_same, ← HN.out]; rfl
      rw [e] at ho
      have HO := Lib.hid ho
      clear ho e hown
      go_wp2_with fail
      go_ret
      exact ⟨_, rfl, HO.out, hxr.out⟩
end Go.Proofs.Ytlgopjfnknjgjaa
