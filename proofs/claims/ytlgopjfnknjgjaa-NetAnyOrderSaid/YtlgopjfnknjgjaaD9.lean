/- Doubles (12) as far as the sort: the numbers that go, and slices.Sort as a premise of its own (SortU). -/
import Derived.Test.YtlgopjfnknjgjaaD4
import Derived.Test.YtlgopjfnknjgjaaD8
namespace Go.Proofs.Ytlgopjfnknjgjaa
open Go.RowKit Go.MapKept

/-- What is asked of slices.Sort at a row of the call's own of at most so many numbers. -/
def SortU (n : Nat) : Prop := ∀ (w : World) (base : Nat) (v : Value) (l : List Nat), w.ownsRow base 28 1 v l.length (l.map uC) → l.length ≤ n → (∀ x ∈ l, x < 18446744073709551616) →
  Calls Try.prog 35 #[v] w fun e w' => e = .returned (.tuple #[]) ∧ w'.ownsRow base 28 1 v l.length ((sortN l).map uC) ∧ w.grownBy w' v.ownBlock
def goneN (us : List IT) : List Nat := (pickF (goesF (us.map nkOf)) us).map IT.n
theorem goneN_doubles (us : List IT) : sortN (goneN us) = doublesF (us.map nkOf) := by
  unfold doublesF goneN
  congr 1
  rw [pickF_map, List.map_map]
  rfl
theorem sortN_len (l : List Nat) : (sortN l).length = l.length := (sortN_law l).1.length_eq

set_option maxRecDepth 100000 in
set_option maxHeartbeats 8000000 in
theorem doubles_any {lim : Nat} (hsort : SortU lim) (w : World) (vl : Value) (us : List IT) (hi : ItemR w vl us) (hlen : us.length ≤ 1000000) (hlim : us.length ≤ lim) (hb : ∀ x ∈ us, x.n < 18446744073709551616) :
    Calls Try.prog 12 #[vl] w fun e w' => ∃ v, e = .returned v ∧ w'.ownsRow w.heap.size 28 1 v (doublesF (us.map nkOf)).length ((doublesF (us.map nkOf)).map uC) ∧ Ext w w' := by
  obtain ⟨a, cap, rfl, hc, hmx⟩ := hi.shape
  unfold maxLen at hmx
  have hp := parted_any w _ us hi
  have HP := Lib.hid hp
  have HI := Lib.hid hi
  have HB := Lib.hid hb
  have HS := Lib.hid hsort
  clear hp hi hb hsort
  generalize hN : us.length = N at *
  have HN := Lib.hid hN
  clear hN
  go_enter Try.func12, Try.ntmps12
  go_wp2_with ((with_reducible refine HP.out.mono ?_); rintro e w1 ⟨bl, bm, b, E, rfl, hbl, hbm, hme, hmo, hx⟩; have HBL := Lib.hid hbl; have HBM := Lib.hid hbm; have HME := Lib.hid hme; have HMO := Lib.hid hmo; have HX := Lib.hid hx; clear hbl hbm hme hmo hx)
  go_loopw [3, 11] (fun v i wr => ∃ k : Nat, k ≤ N ∧ i = .int .i64 k ∧ Hid (wr.ownsRow w1.heap.size 28 1 v (pickK (goesF (us.map nkOf)) us k).length (((pickK (goesF (us.map nkOf)) us k).map IT.n).map uC)) ∧ Hid (Ext w1 wr)) (fun _ i _ => N - (intOf i).toNat)
  case atStart => exact ⟨0, Nat.zero_le _, rfl, own_none _ _ _ _, Ext.refl w1⟩
  case round =>
    obtain ⟨k, hk, rfl, hown, hxr⟩ := hrel
    by_cases hlt : k < N
    · have hI : decide ((k : Int) < (N : Int)) = true := decide_eq_true (by omega)
      have hkl : k < us.length := by rw [HN.out]; exact hlt
      obtain ⟨B, o, rfl, f0, f1, f2, f3⟩ := (HI.out.ext (HX.out.trans hxr.out)).at hkl
      obtain ⟨ha, hn, hcc, hh⟩ := HI.out.hs us[k] (List.getElem_mem hkl)
      rw [hh] at f3
      have hpl := pickK_le (goesF (us.map nkOf)) us k
      have hxa := (boxes1 wr (.cells #[.int .u64 us[k].n, .int .u64 us[k].t, .string (strOf us[k].key), .slice ha hn hcc] 33)).1
      have hX := (boxes1 wr (.cells #[.int .u64 us[k].n, .int .u64 us[k].t, .string (strOf us[k].key), .slice ha hn hcc] 33)).2
      have hxx := hxr.out.trans hxa
      have hcall := goes_any _ bl bm b _ us E (block_later HBL.out hxx) (block_later HBM.out hxx) (HI.out.ext (HX.out.trans hxx)) (HME.out.ext hxx) HMO.out k hkl
      cases hg : goesF (us.map nkOf) k with
      | true =>
        have hst := pickK_yes (p := goesF (us.map nkOf)) hkl hg
        rw [hg] at hcall
        have HST := Lib.hid hst
        have HC := Lib.hid hcall
        clear hst hcall hg hh
        generalize us[k] = x at *
        generalize pickK (goesF (us.map nkOf)) us k = pr at *
        go_upto_region 7 with ((with_reducible refine HC.out.mono ?_); rintro e w2 ⟨rfl, hx2⟩; have x0 := hx2.cell (cell_of_row _ _ 0 _ _ _ hX); have HXR := Lib.hid (hxx.trans hx2); have HOW := Lib.hid (own_ext (own_ext hown.out hxa) hx2); clear hx2 hxx hxa hX f0 f1 f2 f3 hown hxr)
        have hrow := u_row w2 x.n
        have hxa := (boxes1 w2 (.cells #[.int .u64 x.n] 28)).1
        have HROW := Lib.hid hrow
        have HO := Lib.hid (own_ext HOW.out hxa)
        have HXA := Lib.hid (HXR.out.trans hxa)
        have HBASE := Lib.hid HXA.out.size
        clear hrow hxa HOW HXR
        have hb1 : (pr.length + 1) * 8 ≤ 140737488355328 := by omega
        have hb2 : pr.length + 1 ≤ maxLen := by unfold maxLen; omega
        go_wp2_with (at_builtin; (refine wpList_append_row 23 28 (.tmp 19) (.tmp 22) rfl w1.heap.size _ 1 8 Try.underlying23 info28t rfl (by decide) rfl _ pr.length ((pr.map IT.n).map uC) rfl HO.out 1 [uC x.n] HROW.out (u_one [x.n]) hb1 hb2 HBASE.out ?_); intro v' w3 hown2 hg; have HO2 := Lib.hid hown2; have HX3 := Lib.hid (HXA.out.grown_none hg (own_base HO.out)); clear hown2 hg)
        go_roundw
        case rel =>
          refine ⟨k + 1, hlt, by go_num, ?_, HX3.out⟩
          show World.ownsRow _ _ _ _ _ _ _
          rw [HST.out, List.length_append, List.map_append, List.map_append]
          exact HO2.out
        case measure => simp [intOf]; omega
      | false =>
        have hst := pickK_no (p := goesF (us.map nkOf)) hkl hg
        rw [hg] at hcall
        have HST := Lib.hid hst
        have HC := Lib.hid hcall
        clear hst hcall hg hh
        generalize us[k] = x at *
        generalize pickK (goesF (us.map nkOf)) us k = pr at *
        go_wp2_with ((with_reducible refine HC.out.mono ?_); rintro e w2 ⟨rfl, hx2⟩; have HXR := Lib.hid (hxx.trans hx2); have HOW := Lib.hid (own_ext (own_ext hown.out hxa) hx2); clear hx2 hxx hxa hX f0 f1 f2 f3 hown hxr)
        go_roundw
        case rel =>
          refine ⟨k + 1, hlt, by go_num, ?_, HXR.out⟩
          show World.ownsRow _ _ _ _ _ _ _
          rw [HST.out]
          exact HOW.out
        case measure => simp [intOf]; omega
    · obtain rfl : k = N := by omega
      have hI : decide ((k : Int) < (k : Int)) = false := decide_eq_false (by omega)
      have ho := hown.out
      have e : (pickK (goesF (us.map nkOf)) us k).map IT.n = goneN us := by rw [← HN.out]; rfl
      have e2 : (pickK (goesF (us.map nkOf)) us k).length = (goneN us).length := by rw [← e, List.length_map]
      have hle := pickF_le (goesF (us.map nkOf)) us
      have hgl : (goneN us).length ≤ k := by unfold goneN; rw [List.length_map]; rw [HN.out] at hle; exact hle
      have hgb : ∀ y ∈ goneN us, y < 18446744073709551616 := by
        intro y hy
        obtain ⟨x, hx, rfl⟩ := List.mem_map.1 hy
        exact HB.out x (pickK_mem hx)
      rw [e, e2] at ho
      have hcall := HS.out wr _ _ (goneN us) ho (by omega) hgb
      have HO := Lib.hid (own_base ho)
      have HC := Lib.hid hcall
      clear ho e e2 hown hcall hgb hle hgl
      go_wp2_with ((with_reducible refine HC.out.mono ?_); rintro e w2 ⟨rfl, h1, h2⟩; have H1 := Lib.hid h1; have H2 := Lib.hid h2; clear h1 h2)
      go_ret
      refine ⟨_, rfl, ?_, HX.out.trans (hxr.out.grown_none H2.out HO.out)⟩
      have h := own_low H1.out HX.out.size
      rw [goneN_doubles] at h
      rw [← goneN_doubles, sortN_len, goneN_doubles]
      exact h
end Go.Proofs.Ytlgopjfnknjgjaa
