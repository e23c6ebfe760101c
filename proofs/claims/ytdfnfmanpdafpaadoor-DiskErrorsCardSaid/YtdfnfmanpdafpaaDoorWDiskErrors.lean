/- DiskErrors, walked. -/
import Derived.Test.YtdfnfmanpdafpaaDoorD27
namespace Go.Proofs.YtdfnfmanpdafpaaDoor
open Go.RowKit

set_option maxRecDepth 100000 in
set_option maxHeartbeats 8000000 in
theorem diskErrors_walk (w : World) (q : Int) (v : Value) (us : List AX) (B0 : ActsD w v us) (f : Nat) (hf : f < 256) :
    Calls Tryd.prog 4 #[.int .i64 q, v, .int .u8 (f : Nat)] w fun e w' => e = .returned (.bool true) ∧ Ext w w' := by
  obtain ⟨va, vc, rfl, hvc, hvm⟩ := Row.shape B0.row
  obtain ⟨n, hn⟩ : ∃ n, n = us.length := ⟨_, rfl⟩
  have HN := Lib.hid hn
  have HB := Lib.hid B0
  rw [← hn] at hvc ⊢
  clear B0 hn
  by_cases hq : q < 0 ∨ 4194304 < q
  · go_enter Tryd.func4, Tryd.ntmps4
    go_wp2_with (first
      | (go_at_call 6; (with_reducible refine (new_noD w q hq).mono ?_); rintro e w1 ⟨rfl, rfl⟩)
      | (go_at_call 7; (with_reducible refine (awakeD _).mono ?_); rintro e w2 ⟨rfl, hx⟩; have HX := Lib.hid hx; clear hx))
    go_ret
    exact ⟨rfl, HX.out⟩
  · obtain ⟨fn, hfn⟩ : ∃ fn, fn = f % 21 := ⟨_, rfl⟩
    have hq0 : 0 ≤ q := by omega
    have hq1 : q ≤ 4194304 := by omega
    have hf21 : fn < 21 := by rw [hfn]; exact Nat.mod_lt _ (by omega)
    have hwf : IntKind.i64.wrap (f : Int) = (f : Int) := by rw [IntKind.wrap_i64]; omega
    have hrem : ((f : Int) % 21) = (fn : Int) := by omega
    have HQ := Lib.hid (And.intro hq0 hq1)
    clear hq hfn hq0 hq1
    go_enter Tryd.func4, Tryd.ntmps4
    go_upto_region 5 with (go_at_call 6; (with_reducible refine (AtD.new w _ (Ext.refl _) q HQ.out.1 HQ.out.2).mono ?_); rintro e w1 ⟨b, rfl, h⟩; have H0 := Lib.hid h; clear h)
    rw [hrem]
    clear hrem hwf
    have hfu : firstE (fuseL ⟨[], q, -1, false⟩ (fn : Int)) = 0 := by
      refine firstE_le.2 fun e he => ?_
      simp only [fuseL, List.mem_cons, List.not_mem_nil, or_false] at he
      rcases he with rfl | rfl
      · rfl
      · unfold errB; rw [decide_eq_false (by omega)]; rfl
    have hfs : fuseS ⟨[], q, -1, false⟩ (fn : Int) = ⟨[], q, fn, false⟩ := by unfold fuseS; rw [if_pos hfu]
    have HFU := Lib.hid (And.intro hfu hfs)
    clear hfu hfs
    go_upto_region 8 with (go_at_call 16; (with_reducible refine (AtD.fuse H0.out (fn : Int) (by omega) 0 HFU.out.1 HFU.out.2).mono ?_); rintro e w2 ⟨rfl, h⟩; have H1 := Lib.hid h; clear h H0 HFU)
    unfold maxLen at hvm
    go_wp2_with fail
    go_loopw [10, 40] (fun dn i wr => ∃ (k d : Nat) (S : DS), k ≤ n ∧ i = .int .i64 k ∧ dn = .int .i64 d ∧ Hid (AtD w b S wr) ∧ Hid (S.off = false ∧ S.fz = (fn : Int) - (d : Int) ∧ d ≤ fn)) (fun _ i _ => n - (intOf i).toNat)
    case atStart => exact ⟨0, 0, _, Nat.zero_le _, rfl, rfl, H1.out, rfl, by show (fn : Int) = (fn : Int) - 0; omega, Nat.zero_le _⟩
    case round =>
      clear H1
      obtain ⟨k, d, S, hk, rfl, rfl, HA, HS⟩ := hrel
      by_cases hlt : k < n
      · have hI : decide ((k : Int) < (n : Int)) = true := decide_eq_true (by omega)
        have hkN : (k : Int) < (n : Int) := by omega
        have hkl : k < us.length := by have := HN.out; omega
        obtain ⟨x, hx⟩ : ∃ x, us[k]? = some x := ⟨_, List.getElem?_eq_getElem hkl⟩
        have hxm : x ∈ us := List.mem_of_getElem? hx
        obtain ⟨B, o, rfl, c0, c1, c2, c3, c4, c5⟩ := (HB.out.ext HA.out.out).at hx
        have hac := HB.out.acts x hxm
        have hnn := HB.out.ns x hxm
        obtain ⟨a, vb, vp⟩ := x
        dsimp only at c0 c1 c2 c3 c4 c5 hac hnn
        obtain ⟨ba, bc, rfl, _, _⟩ := hac.b.shape
        obtain ⟨pa, pc, rfl, _, _⟩ := Row.shape hac.ps
        have HAC := Lib.hid (And.intro hac hnn)
        obtain ⟨lb, hlb⟩ : ∃ lb, a.b.length = lb := ⟨_, rfl⟩
        obtain ⟨lp, hlp⟩ : ∃ lp, a.ps.length = lp := ⟨_, rfl⟩
        rw [hlb] at HAC c3
        rw [hlp] at HAC c5
        clear hx hxm hkl hac hnn hlb hlp
        go_upto_region 11 with fail
        obtain ⟨hxa, hba⟩ := boxes1 wr (.cells #[.int .i64 a.what, .string (strOf a.nm), .string (strOf a.ot), .slice ba lb bc, .int .i64 a.n, .slice pa lp pc] 31)
        have q0 := cell_of_row _ _ 0 _ _ _ hba
        have q1 := cell_of_row _ _ 1 _ _ _ hba
        have q2 := cell_of_row _ _ 2 _ _ _ hba
        have q3 := cell_of_row _ _ 3 _ _ _ hba
        have q4 := cell_of_row _ _ 4 _ _ _ hba
        have q5 := cell_of_row _ _ 5 _ _ _ hba
        have HAA := Lib.hid (HA.out.ext hxa)
        have HBA := Lib.hid hba
        have hbx : wr.heap.size < (wr.alloc (.cells #[.int .i64 a.what, .string (strOf a.nm), .string (strOf a.ot), .slice ba lb bc, .int .i64 a.n, .slice pa lp pc] 31)).heap.size := by rw [World.size_alloc]; exact Nat.lt_succ_self _
        clear hxa hba c0 c1 c2 c3 c4 c5 HA hbx
        generalize hbxn : wr.heap.size = bx at *
        clear hbxn
        generalize wr.alloc (.cells #[.int .i64 a.what, .string (strOf a.nm), .string (strOf a.ot), .slice ba lb bc, .int .i64 a.n, .slice pa lp pc] 31) = wa at *
        by_cases hk1 : k = 100
        · have hke : ((k : Int) == 100) = true := by rw [beq_iff_eq]; omega
          clear hk1 q0 q1 q2 q3 q4 q5
          have hdn : decide ((d : Int) ≤ (fn : Int)) = true := decide_eq_true (by have := HS.out.2.2; omega)
          have hdm : decide (d ≤ fn) = true := decide_eq_true HS.out.2.2
          have hdo : d ≤ fn := HS.out.2.2
          go_wp2_with (first
            | (go_at_call 7; (with_reducible refine (awakeD _).mono ?_); rintro e w9 ⟨rfl, hx⟩; have HF := Lib.hid (HAA.out.ext hx); clear hx)
            | (go_at_call 18; (with_reducible refine (AtD.offs HF.out HS.out.1).mono ?_); rintro e w10 ⟨rfl, rfl⟩))
          exact bodyPost_ret (v := .bool true) (by simp [results, Tryd.results4, go_sem]) rfl ⟨rfl, HF.out.out⟩
        · have hke : ((k : Int) == 100) = false := by rw [beq_eq_false_iff_ne]; omega
          clear hk1
          go_upto_region 12 with fail
          clear hke
          by_cases h0 : a.what < 0
          · have e0 : decide (a.what < 0) = true := decide_eq_true h0
            clear h0
            go_wp2_with fail
            go_roundw
            case rel => exact ⟨k + 1, d, S, hlt, by go_num, rfl, HAA.out, HS.out⟩
            case measure => simp [intOf]; omega
          have e0 : decide (a.what < 0) = false := decide_eq_false h0
          by_cases h5 : 5 < a.what
          · have e5 : decide (a.what > 5) = true := decide_eq_true h5
            clear h0 h5
            go_wp2_with fail
            go_roundw
            case rel => exact ⟨k + 1, d, S, hlt, by go_num, rfl, HAA.out, HS.out⟩
            case measure => simp [intOf]; omega
          have e5 : decide (a.what > 5) = false := decide_eq_false h5
          have herr := do_err HS.out.1 (by have := HS.out.2.1; have := HS.out.2.2; omega) (a := a) (by omega) (by omega)
          have HERR := Lib.hid herr
          clear herr h0 h5
          obtain ⟨sb, hsb⟩ : ∃ sb, sb = shapeL (filesD S) := ⟨_, rfl⟩
          have hshp : ∀ W, AtD w b S W → Calls Tryd.prog 17 #[.pointer (some ⟨b, 0, none⟩)] W fun e w' => e = .returned (.string sb) ∧ AtD w b S w' ∧ Ext W w' := fun W h => by rw [hsb]; exact h.shape
          have HSH := Lib.hid hshp
          clear hshp hsb
          go_upto_region 14 with (go_at_call 17; (with_reducible refine (HSH.out _ HAA.out).mono ?_); rintro e w5 ⟨rfl, h, hx⟩; have HA5 := Lib.hid h; have HBB := Lib.hid (block_later HBA.out hx); clear h hx)
          clear q0 q1 q2 q3 q4 q5 e0 e5
          have q0 := cell_of_row _ _ 0 _ _ _ HBB.out
          have q1 := cell_of_row _ _ 1 _ _ _ HBB.out
          have q2 := cell_of_row _ _ 2 _ _ _ HBB.out
          have q3 := cell_of_row _ _ 3 _ _ _ HBB.out
          have q4 := cell_of_row _ _ 4 _ _ _ HBB.out
          have q5 := cell_of_row _ _ 5 _ _ _ HBB.out
          have hdo := AtD.doit (x := ⟨a, .slice ba lb bc, .slice pa lp pc⟩) HA5.out HAC.out.1 HAC.out.2
          unfold actV at hdo
          dsimp only at hdo
          rcases HERR.out with ⟨ee, z1, z2, z3⟩ | ⟨ee, z1, z2⟩ | ⟨e1, e2, e3⟩
          · rw [ee] at hdo
            have HDO := Lib.hid hdo
            have HZ := Lib.hid (And.intro z1 (And.intro z2 z3))
            have hd21 : d < 21 := by have := HS.out.2.2; omega
            clear hdo ee z1 z2 z3
            go_wp2_with (go_at_call 8; (with_reducible refine HDO.out.mono ?_); rintro e w6 ⟨rfl, h⟩; have HA6 := Lib.hid h; clear h)
            go_roundw
            case rel => exact ⟨k + 1, d + 1, _, hlt, by go_num, by go_num, HA6.out, HZ.out.2.2, by have h1 := HS.out.2.1; have h2 := HZ.out.2.1; rw [h2, h1]; omega, by have h1 := HS.out.2.1; have h2 := HZ.out.1; omega⟩
            case measure => simp [intOf]; omega
          · rw [ee] at hdo
            have HDO := Lib.hid hdo
            have HZ := Lib.hid (And.intro z1 z2)
            have hdf : d = fn := by have h1 := HS.out.2.1; omega
            have hnm : namesS (doS S a) = [] := by unfold namesS; rw [z2]; rfl
            have HNM := Lib.hid hnm
            subst hdf
            clear hdo ee z1 z2 hnm
            go_wp2_with (first
              | (go_at_call 8; (with_reducible refine HDO.out.mono ?_); rintro e w6 ⟨rfl, h⟩; have HA6 := Lib.hid h; clear h)
              | (go_at_call 7; (with_reducible refine (awakeD _).mono ?_); rintro e w9 ⟨rfl, hx⟩; have HF := Lib.hid (HA6.out.ext hx); clear hx)
              | (go_at_call 18; (with_reducible refine (AtD.offs HF.out HZ.out.2).mono ?_); rintro e w10 ⟨rfl, rfl⟩)
              | (go_at_call 9; (with_reducible refine (AtD.names HF.out [] HNM.out).mono ?_); rintro e w11 ⟨v2, rfl, ho, h, hx⟩; have HG := Lib.hid h; obtain ⟨na, nc, rfl, _, _⟩ := own_shape ho; clear ho h hx))
            exact bodyPost_ret (v := .bool true) (by simp [results, Tryd.results4, go_sem]) rfl ⟨rfl, HG.out.out⟩
          · rw [e3] at hdo
            obtain ⟨c, hc⟩ : ∃ c, c = doE S a := ⟨_, rfl⟩
            rw [← hc] at hdo e1 e2
            have x1 : ((c : Int) == 0) = false := by rw [beq_eq_false_iff_ne]; exact e1
            have x2 : ((c : Int) == 8) = false := by rw [beq_eq_false_iff_ne]; exact e2
            have HDO := Lib.hid hdo
            clear hdo e1 e2 e3 hc
            go_wp2_with (first
              | (go_at_call 8; (with_reducible refine HDO.out.mono ?_); rintro e w6 ⟨rfl, h⟩; have HA6 := Lib.hid h; clear h)
              | (go_at_call 18; (with_reducible refine (AtD.offs HA6.out HS.out.1).mono ?_); rintro e w10 ⟨rfl, rfl⟩)
              | (go_at_call 17; (with_reducible refine (HSH.out _ HA6.out).mono ?_); rintro e w7 ⟨rfl, h, hx⟩; have HA7 := Lib.hid h; clear h hx))
            go_roundw
            case rel => exact ⟨k + 1, d, S, hlt, by go_num, rfl, HA7.out, HS.out⟩
            case measure => simp [intOf]; omega
      · obtain rfl : k = n := by omega
        have hI : decide ((k : Int) < (k : Int)) = false := decide_eq_false (by omega)
        have hdn : decide ((d : Int) ≤ (fn : Int)) = true := decide_eq_true (by have := HS.out.2.2; omega)
        have hdm : decide (d ≤ fn) = true := decide_eq_true HS.out.2.2
        have hdo : d ≤ fn := HS.out.2.2
        go_wp2_with (first
          | (go_at_call 7; (with_reducible refine (awakeD _).mono ?_); rintro e w9 ⟨rfl, hx⟩; have HF := Lib.hid (HA.out.ext hx); clear hx)
          | (go_at_call 18; (with_reducible refine (AtD.offs HF.out HS.out.1).mono ?_); rintro e w10 ⟨rfl, rfl⟩))
        exact bodyPost_ret (v := .bool true) (by simp [results, Tryd.results4, go_sem]) rfl ⟨rfl, HF.out.out⟩
end Go.Proofs.YtdfnfmanpdafpaaDoor
