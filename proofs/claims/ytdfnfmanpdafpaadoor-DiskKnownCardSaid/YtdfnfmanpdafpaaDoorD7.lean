/- Disk: the questions that closures ask. -/
import Derived.Test.YtdfnfmanpdafpaaDoorD6
import Derived.Test.YtdfnfmanpdafpaaDoorK7
import Derived.Deep.RegionLaw
import Derived.Lib.Hide
namespace Go.Proofs.YtdfnfmanpdafpaaDoor
open Go.RowKit

def thereG (gs : List FG) (n : List UInt8) : Int := if mayN n then (if (nget FG.nm gs n).isSome then 0 else 6) else 1
def Fact.wqF (i : Bool) (c : Int) : Fact := ⟨fun v w => ∃ b1 b2, v = wqV b1 b2 ∧ w.heap[b1]? = some (.cells #[.bool i] 4 (0, 0)) ∧ w.heap[b2]? = some (.cells #[.int .i64 c] 26 (0, 0)), fun _ _ _ hx ⟨b1, b2, h1, h2, h3⟩ => ⟨b1, b2, h1, block_later h2 hx, block_later h3 hx⟩⟩
theorem wrong_fact (w : World) (i : Bool) (c : Int) : Calls Tryd.prog 36 #[.bool i, .int .i64 c] w fun e w' => ∃ b1 b2, e = .returned (wqV b1 b2) ∧ w'.heap[b1]? = some (.cells #[.bool i] 4 (0, 0)) ∧ w'.heap[b2]? = some (.cells #[.int .i64 c] 26 (0, 0)) ∧ Ext w w' := by
  refine (wrong_any w i c).mono ?_
  rintro e w' ⟨rfl, rfl⟩
  obtain ⟨h1, h2, h3⟩ := boxes2 w (.cells #[.bool i] 4) (.cells #[.int .i64 c] 26)
  exact ⟨_, _, rfl, h2, h3, h1⟩
theorem wrongq_err (w : World) (b1 b2 : Nat) (i : Bool) (c : Int) (h1 : w.heap[b1]? = some (.cells #[.bool i] 4 (0, 0))) (h2 : w.heap[b2]? = some (.cells #[.int .i64 c] 26 (0, 0))) :
    Calls Tryd.prog 47 #[.pointer (some ⟨b1, 0, none⟩), .pointer (some ⟨b2, 0, none⟩)] w fun e w' => e = .returned (.int .i64 (errB i c)) ∧ w' = w := wrongq_any w b1 b2 i c h1 h2
def PBox (w : World) (bx b : Nat) : Prop := w.heap[bx]? = some (.cells #[.pointer (some ⟨b, 0, none⟩)] 25 (0, 0))
def SBox (w : World) (bx : Nat) (n : List UInt8) : Prop := w.heap[bx]? = some (.cells #[.string (strOf n)] 9 (0, 0))
theorem PBox.ext {w w' : World} {bx b : Nat} (h : PBox w bx b) (hx : Ext w w') : PBox w' bx b := block_later h hx
theorem SBox.ext {w w' : World} {bx : Nat} {n : List UInt8} (h : SBox w bx n) (hx : Ext w w') : SBox w' bx n := block_later h hx
set_option maxRecDepth 100000 in
set_option maxHeartbeats 4000000 in
theorem therq_any (w : World) (b1 b2 b bm : Nat) (gs : List FG) (q fz : Int) (off : Bool) (n : List UInt8) (h1 : SBox w b1 n) (h2 : PBox w b2 b) (hd : DkR w b bm gs q fz off) :
    Calls Tryd.prog 46 #[.pointer (some ⟨b1, 0, none⟩), .pointer (some ⟨b2, 0, none⟩)] w fun e w' => e = .returned (.int .i64 (thereG gs n)) ∧ Ext w w' := by
  have m1 := cell_of_row _ _ 0 _ _ _ h1
  have hmay := may_any w n
  have HM := Lib.hid hmay
  have H1 := Lib.hid h1
  have H2 := Lib.hid h2
  have HD := Lib.hid hd
  clear h1 h2 hd hmay
  cases hm : mayN n with
  | false =>
    have hres : Hid (thereG gs n = 1) := by show thereG gs n = 1; unfold thereG; rw [hm]; rfl
    rw [hm] at HM
    clear hm
    go_enter Tryd.func46, Tryd.ntmps46
    go_wp2_with ((with_reducible refine HM.out.mono ?_); rintro e w5 ⟨rfl, hx⟩; have HX := Lib.hid hx; clear hx)
    go_ret
    exact ⟨by rw [hres.out]; rfl, HX.out⟩
  | true =>
    rw [hm] at HM
    cases hg : nget FG.nm gs n with
    | none =>
      have hres : Hid (thereG gs n = 6) := by show thereG gs n = 6; unfold thereG; rw [hm, hg]; rfl
      have hp : Hid (ptrG gs n = none) := by show ptrG gs n = none; unfold ptrG; rw [hg]; rfl
      clear hm hg
      go_enter Tryd.func46, Tryd.ntmps46
      go_upto_region 3 with ((with_reducible refine HM.out.mono ?_); rintro e w5 ⟨rfl, hx⟩; have HX := Lib.hid hx; clear hx)
      have n1 := cell_of_row _ _ 0 _ _ _ (H1.out.ext HX.out)
      have n2 := cell_of_row _ _ 0 _ _ _ (H2.out.ext HX.out)
      have n3 := cell_of_row _ _ 0 _ _ _ (HD.out.ext HX.out).box
      clear m1
      refine wp_region_facts [Fact.eq (.pointer (some ⟨b, 0, none⟩)),
          Fact.eq (.pointer (some ⟨b, 0, none⟩)),
          Fact.eq (.pointer (some ⟨b, 0, none⟩)),
          Fact.eq (.map (some bm)),
          Fact.eq (.string (strOf n)),
          Fact.eq (.pointer none),
          Fact.eq (.bool true),
          Fact.eq (.bool true)]
        [[], [(0, 8)], [(1, 9)], [(2, 10)], [], [(3, 11), (4, 12)], [(5, 13)], [(6, 14)]]
        [(0, 8), (1, 9), (2, 10), (3, 11), (4, 12), (5, 13), (6, 14), (7, 7)] (by kernel_rfl) (by kernel_rfl) ?_ ?_
      · refine ⟨?_, ?_, ?_, ?_, ?_, ?_, ?_, ?_, trivial⟩
        · intro w1 hx1; change wpList _ _ _ _ _ _; have m0 := hx1.cell n2; go_wp2_with fail; exact ⟨rfl, Ext.refl _, rfl, rfl⟩
        · intro w1 hx1; rintro _ rfl; change wpList _ _ _ _ _ _; go_wp2_with fail; exact ⟨rfl, Ext.refl _, rfl, rfl⟩
        · intro w1 hx1; rintro _ rfl; change wpList _ _ _ _ _ _; go_wp2_with fail; exact ⟨rfl, Ext.refl _, rfl, rfl⟩
        · intro w1 hx1; rintro _ rfl; change wpList _ _ _ _ _ _; have m0 := hx1.cell n3; go_wp2_with fail; exact ⟨rfl, Ext.refl _, rfl, rfl⟩
        · intro w1 hx1; change wpList _ _ _ _ _ _; have m0 := hx1.cell n1; go_wp2_with fail; exact ⟨rfl, Ext.refl _, rfl, rfl⟩
        · intro w1 hx1; rintro _ rfl; rintro _ rfl; change wpList _ _ _ _ _ _; have k1 := (HD.out.ext (HX.out.trans hx1)).look n; rw [hp.out] at k1; go_wp2_with fail; exact ⟨rfl, Ext.refl _, rfl, rfl⟩
        · intro w1 hx1; rintro _ rfl; change wpList _ _ _ _ _ _; go_wp2_with fail; exact ⟨rfl, Ext.refl _, rfl, rfl⟩
        · intro w1 hx1; rintro _ rfl; change wpList _ _ _ _ _ _; exact ob_assign rfl rfl rfl rfl rfl
      · intro w1 hx1; rintro _ rfl; rintro _ rfl; rintro _ rfl; rintro _ rfl; rintro _ rfl; rintro _ rfl; rintro _ rfl; rintro _ rfl; refine depsThen_nil ?_; dsimp only; simp only [Act.put, List.setIfInBounds_toArray, List.set_cons_zero, List.set_cons_succ]
        have HX1 := Lib.hid (HX.out.trans hx1)
        clear hx1
        go_wp2_with fail
        go_ret
        exact ⟨by rw [hres.out]; rfl, HX1.out⟩
    | some g =>
      have hres : Hid (thereG gs n = 0) := by show thereG gs n = 0; unfold thereG; rw [hm, hg]; rfl
      have hp : Hid (ptrG gs n = some ⟨g.p, 0, none⟩) := by show ptrG gs n = some ⟨g.p, 0, none⟩; unfold ptrG; rw [hg]; rfl
      clear hm hg
      go_enter Tryd.func46, Tryd.ntmps46
      go_upto_region 3 with ((with_reducible refine HM.out.mono ?_); rintro e w5 ⟨rfl, hx⟩; have HX := Lib.hid hx; clear hx)
      have n1 := cell_of_row _ _ 0 _ _ _ (H1.out.ext HX.out)
      have n2 := cell_of_row _ _ 0 _ _ _ (H2.out.ext HX.out)
      have n3 := cell_of_row _ _ 0 _ _ _ (HD.out.ext HX.out).box
      clear m1
      refine wp_region_facts [Fact.eq (.pointer (some ⟨b, 0, none⟩)),
          Fact.eq (.pointer (some ⟨b, 0, none⟩)),
          Fact.eq (.pointer (some ⟨b, 0, none⟩)),
          Fact.eq (.map (some bm)),
          Fact.eq (.string (strOf n)),
          Fact.eq (.pointer (some ⟨g.p, 0, none⟩)),
          Fact.eq (.bool false),
          Fact.eq (.bool false)]
        [[], [(0, 8)], [(1, 9)], [(2, 10)], [], [(3, 11), (4, 12)], [(5, 13)], [(6, 14)]]
        [(0, 8), (1, 9), (2, 10), (3, 11), (4, 12), (5, 13), (6, 14), (7, 7)] (by kernel_rfl) (by kernel_rfl) ?_ ?_
      · refine ⟨?_, ?_, ?_, ?_, ?_, ?_, ?_, ?_, trivial⟩
        · intro w1 hx1; change wpList _ _ _ _ _ _; have m0 := hx1.cell n2; go_wp2_with fail; exact ⟨rfl, Ext.refl _, rfl, rfl⟩
        · intro w1 hx1; rintro _ rfl; change wpList _ _ _ _ _ _; go_wp2_with fail; exact ⟨rfl, Ext.refl _, rfl, rfl⟩
        · intro w1 hx1; rintro _ rfl; change wpList _ _ _ _ _ _; go_wp2_with fail; exact ⟨rfl, Ext.refl _, rfl, rfl⟩
        · intro w1 hx1; rintro _ rfl; change wpList _ _ _ _ _ _; have m0 := hx1.cell n3; go_wp2_with fail; exact ⟨rfl, Ext.refl _, rfl, rfl⟩
        · intro w1 hx1; change wpList _ _ _ _ _ _; have m0 := hx1.cell n1; go_wp2_with fail; exact ⟨rfl, Ext.refl _, rfl, rfl⟩
        · intro w1 hx1; rintro _ rfl; rintro _ rfl; change wpList _ _ _ _ _ _; have k1 := (HD.out.ext (HX.out.trans hx1)).look n; rw [hp.out] at k1; go_wp2_with fail; exact ⟨rfl, Ext.refl _, rfl, rfl⟩
        · intro w1 hx1; rintro _ rfl; change wpList _ _ _ _ _ _; go_wp2_with fail; exact ⟨rfl, Ext.refl _, rfl, rfl⟩
        · intro w1 hx1; rintro _ rfl; change wpList _ _ _ _ _ _; exact ob_assign rfl rfl rfl rfl rfl
      · intro w1 hx1; rintro _ rfl; rintro _ rfl; rintro _ rfl; rintro _ rfl; rintro _ rfl; rintro _ rfl; rintro _ rfl; rintro _ rfl; refine depsThen_nil ?_; dsimp only; simp only [Act.put, List.setIfInBounds_toArray, List.set_cons_zero, List.set_cons_succ]
        have HX1 := Lib.hid (HX.out.trans hx1)
        clear hx1
        go_wp2_with fail
        go_ret
        exact ⟨by rw [hres.out]; rfl, HX1.out⟩
set_option maxRecDepth 100000 in
set_option maxHeartbeats 4000000 in
theorem create1_any (w : World) (b1 b2 b bm : Nat) (gs : List FG) (q fz : Int) (off : Bool) (n : List UInt8) (h1 : SBox w b1 n) (h2 : PBox w b2 b) (hd : DkR w b bm gs q fz off) :
    Calls Tryd.prog 37 #[.pointer (some ⟨b2, 0, none⟩), .pointer (some ⟨b1, 0, none⟩)] w fun e w' => e = .returned (.int .i64 (errB (nget FG.nm gs n).isSome 9)) ∧ Ext w w' := by
  have n1 := cell_of_row _ _ 0 _ _ _ h1
  have n2 := cell_of_row _ _ 0 _ _ _ h2
  have n3 := cell_of_row _ _ 0 _ _ _ hd.box
  have HD := Lib.hid hd
  clear h1 h2 hd
  obtain ⟨is, his⟩ : ∃ is, is = (nget FG.nm gs n).isSome := ⟨_, rfl⟩
  have HIS := Lib.hid his
  have hpi : (ptrG gs n).isSome = is := by rw [his]; unfold ptrG; rw [Option.isSome_map]
  rw [← his]
  clear his
  obtain ⟨pa, hpa⟩ : ∃ pa, pa = ptrG gs n := ⟨_, rfl⟩
  have HP := Lib.hid hpa
  rw [← hpa] at hpi
  clear hpa
  have hq : ∀ w0 : World, (binOp .neq 66 (.pointer pa) (.pointer none)).run Tryd.prog w0 = .ok (.bool is) w0 := fun w0 => by subst hpi; cases pa <;> kernel_rfl
  clear hpi
  go_enter Tryd.func37, Tryd.ntmps37
  go_upto_region 1 with fail
  refine wp_region_chain 8 [Fact.eq (.pointer (some ⟨b, 0, none⟩)),
      Fact.eq (.pointer (some ⟨b, 0, none⟩)),
      Fact.eq (.pointer (some ⟨b, 0, none⟩)),
      Fact.eq (.map (some bm)),
      Fact.eq (.string (strOf n)),
      Fact.eq (.pointer pa),
      Fact.eq (.bool is),
      Fact.wqF is 9]
    [[], [(0, 3)], [(1, 4)], [(2, 5)], [], [(3, 6), (4, 7)], [(5, 8)], [(6, 9)]]
    [(0, 3), (1, 4), (2, 5), (3, 6), (4, 7), (5, 8), (6, 9), (7, 10)] (by kernel_rfl) (by kernel_rfl) ?_ ?_
  · refine ⟨?_, ?_, ?_, ?_, ?_, ?_, ?_, ?_, trivial⟩
    · intro w1 hx1; change wpList _ _ _ _ _ _; have m0 := hx1.cell n2; go_wp2_with fail; exact ⟨rfl, Ext.refl _, rfl, rfl⟩
    · intro w1 hx1; rintro _ rfl; change wpList _ _ _ _ _ _; go_wp2_with fail; exact ⟨rfl, Ext.refl _, rfl, rfl⟩
    · intro w1 hx1; rintro _ rfl; change wpList _ _ _ _ _ _; go_wp2_with fail; exact ⟨rfl, Ext.refl _, rfl, rfl⟩
    · intro w1 hx1; rintro _ rfl; change wpList _ _ _ _ _ _; have m0 := hx1.cell n3; go_wp2_with fail; exact ⟨rfl, Ext.refl _, rfl, rfl⟩
    · intro w1 hx1; change wpList _ _ _ _ _ _; have m0 := hx1.cell n1; go_wp2_with fail; exact ⟨rfl, Ext.refl _, rfl, rfl⟩
    · intro w1 hx1; rintro _ rfl; rintro _ rfl; change wpList _ _ _ _ _ _; have k1 := (HD.out.ext hx1).look n; rw [← HP.out] at k1; go_wp2_with fail; exact ⟨rfl, Ext.refl _, rfl, rfl⟩
    · intro w1 hx1; rintro _ rfl; change wpList _ _ _ _ _ _; go_wp2_with fail; exact ⟨rfl, Ext.refl _, rfl, rfl⟩
    · intro w1 hx1; rintro _ rfl; change wpList _ _ _ _ _ _; go_wp2_with ((with_reducible refine (wrong_fact _ is 9).mono ?_); rintro e w2 ⟨c1, c2, rfl, g1, g2, hx2⟩); exact ⟨rfl, hx2, rfl, c1, c2, rfl, g1, g2⟩
  · intro w1 hx1; rintro _ rfl; rintro _ rfl; rintro _ rfl; rintro _ rfl; rintro _ rfl; rintro _ rfl; rintro _ rfl; intro v10 h10; refine depsThen_nil ?_; dsimp only; simp only [Act.put, List.setIfInBounds_toArray, List.set_cons_zero, List.set_cons_succ, List.drop_succ_cons, List.drop_zero]
    replace h10 : (Fact.wqF is 9).p v10 w1 := h10
    obtain ⟨c1, c2, rfl, g1, g2⟩ : ∃ c1 c2, v10 = wqV c1 c2 ∧ w1.heap[c1]? = some (.cells #[.bool is] 4 (0, 0)) ∧ w1.heap[c2]? = some (.cells #[.int .i64 9] 26 (0, 0)) := h10
    have HW := Lib.hid (wrongq_err w1 c1 c2 is 9 g1 g2)
    have HX1 := Lib.hid hx1
    clear hx1 g1 g2
    go_wp2_with ((with_reducible refine HW.out.mono ?_); rintro e w5 ⟨rfl, rfl⟩)
    go_ret
    exact ⟨rfl, HX1.out⟩
set_option maxRecDepth 100000 in
set_option maxHeartbeats 4000000 in
theorem create2_any (w : World) (b2 b bm : Nat) (gs : List FG) (q fz : Int) (off : Bool) (h2 : PBox w b2 b) (hd : DkR w b bm gs q fz off) :
    Calls Tryd.prog 38 #[.pointer (some ⟨b2, 0, none⟩)] w fun e w' => e = .returned (.int .i64 (errB (decide (512 ≤ gs.length)) 7)) ∧ Ext w w' := by
  have n2 := cell_of_row _ _ 0 _ _ _ h2
  have n3 := cell_of_row _ _ 0 _ _ _ hd.box
  have hlen := hd.len
  clear h2 hd
  obtain ⟨is, his⟩ : ∃ is, is = decide (512 ≤ gs.length) := ⟨_, rfl⟩
  have hge : decide ((gs.length : Int) ≥ 512) = is := by rw [his]; exact decide_eq_decide.2 (by omega)
  rw [← his]
  clear his
  generalize gs.length = len at *
  go_enter Tryd.func38, Tryd.ntmps38
  go_wp2_with (first
    | (go_at_call 36; (with_reducible refine (wrong_fact _ is 7).mono ?_); rintro e w2 ⟨c1, c2, rfl, g1, g2, hx2⟩; have HW := Lib.hid (wrongq_err w2 c1 c2 is 7 g1 g2); have HX2 := Lib.hid hx2; clear hx2 g1 g2)
    | ((with_reducible refine HW.out.mono ?_); rintro e w5 ⟨rfl, rfl⟩))
  go_ret
  exact ⟨rfl, HX2.out⟩
end Go.Proofs.YtdfnfmanpdafpaaDoor
