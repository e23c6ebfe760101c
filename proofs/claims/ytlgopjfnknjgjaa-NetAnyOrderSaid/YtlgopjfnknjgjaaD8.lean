/- The document's Numbers (14): two rows of the same numbers are told so. Rows of numbers. -/
import Derived.Test.YtlgopjfnknjgjaaD3
import Derived.Test.YtlgopjfnknjgjaaY1
namespace Go.Proofs.Ytlgopjfnknjgjaa
open Go.RowKit Go.MapKept

def uC (n : Nat) : Value := .int .u64 n
def UR (w : World) (v : Value) (l : List Nat) : Prop := Row w 1 v l.length (l.map uC)
theorem UR.ext {w w' : World} {v : Value} {l : List Nat} (h : UR w v l) (hx : Ext w w') : UR w' v l := Row.ext h hx
theorem UR.at {w : World} {a : Option Addr} {n cap : Nat} {l : List Nat} (h : UR w (.slice a n cap) l) {k : Nat} (hk : k < l.length) : ∃ B o, a = some ⟨B, o, none⟩ ∧ w.cell? ⟨B, o + k, none⟩ = some (.int .u64 l[k]) := by
  obtain ⟨B, o, rfl⟩ := Row.base h (by omega) (by decide)
  exact ⟨B, o, rfl, Row.cellAt h (by rw [List.getElem?_map, List.getElem?_eq_getElem hk]; rfl) (by omega)⟩
theorem info28t : (Try.prog.info? 28).map (fun i => (i.zero, i.size, i.bytes)) = some (some (.int .u64 0), 1, 8) := by kernel_rfl
theorem u_one (l : List Nat) : ∀ u ∈ l.map uC, u.oneCell' = true := by
  intro u hu
  obtain ⟨n, _, rfl⟩ := List.mem_map.1 hu
  rfl
theorem u_row (w : World) (n : Nat) : Row (w.alloc (.cells #[.int .u64 n] 28)) 1 (.slice (some ⟨w.heap.size, 0, none⟩) 1 1) 1 [uC n] :=
  Row.of_own (World.ownsRow_lit (base := w.heap.size) (e := 28) (size := 1) w #[.int .u64 n] 1 (Nat.le_refl _) (by decide) rfl)

set_option maxRecDepth 100000 in
set_option maxHeartbeats 8000000 in
theorem numbers_yes (w : World) (va vb : Value) (l : List Nat) (ha : UR w va l) (hb : UR w vb l) :
    Calls Try.prog 14 #[va, vb] w fun e w' => e = .returned (.bool true) ∧ Ext w w' := by
  obtain ⟨aa, cap, rfl, hc, hmx⟩ := Row.shape ha
  obtain ⟨ab, capb, rfl, hcb, hmxb⟩ := Row.shape hb
  unfold maxLen at hmx hmxb
  have HA := Lib.hid ha
  have HB := Lib.hid hb
  clear ha hb
  generalize hN : l.length = N at *
  have HN := Lib.hid hN
  clear hN
  go_enter Try.func14, Try.ntmps14
  go_wp2_with fail
  go_loopw [5] (fun i wr => ∃ k : Nat, k ≤ N ∧ i = .int .i64 k ∧ Ext w wr) (fun i _ => N - (intOf i).toNat)
  case atStart => exact ⟨0, Nat.zero_le _, rfl, Ext.refl w⟩
  case round =>
    obtain ⟨k, hk, rfl, hx⟩ := hrel
    by_cases hlt : k < N
    · have hI : decide ((k : Int) < (N : Int)) = true := decide_eq_true (by omega)
      have hkN : (k : Int) < (N : Int) := by omega
      have hkl : k < l.length := by rw [HN.out]; exact hlt
      obtain ⟨B, o, rfl, f0⟩ := (HA.out.ext hx).at hkl
      obtain ⟨C, q, rfl, g0⟩ := (HB.out.ext hx).at hkl
      generalize l[k] = n1 at *
      go_upto_region 6 with fail
      refine wp_region_facts [Fact.eq (.slice (some ⟨B, o, none⟩) N cap),
          Fact.eq (.int .i64 k),
          Fact.eq (.pointer (some ⟨B, o + k, none⟩)),
          Fact.eq (.int .u64 n1),
          Fact.eq (.slice (some ⟨C, q, none⟩) N capb),
          Fact.eq (.int .i64 k),
          Fact.eq (.pointer (some ⟨C, q + k, none⟩)),
          Fact.eq (.int .u64 n1),
          Fact.eq (.bool false)]
        [[], [], [(0, 17), (1, 18)], [(2, 19)], [], [], [(4, 21), (5, 22)], [(6, 23)], [(3, 20), (7, 24)]]
        [(0, 17), (1, 18), (2, 19), (3, 20), (4, 21), (5, 22), (6, 23), (7, 24), (8, 25)] (by kernel_rfl) (by kernel_rfl) ?_ ?_
      · refine ⟨?_, ?_, ?_, ?_, ?_, ?_, ?_, ?_, ?_, trivial⟩
        · intro w1 hx1; change wpList _ _ _ _ _ _; exact ob_move rfl rfl rfl rfl rfl
        · intro w1 hx1; change wpList _ _ _ _ _ _; exact ob_move rfl rfl rfl rfl rfl
        · intro w1 hx1; rintro _ rfl; rintro _ rfl; change wpList _ _ _ _ _ _; go_wp2_with fail; exact ⟨rfl, Ext.refl _, rfl, rfl⟩
        · intro w1 hx1; rintro _ rfl; change wpList _ _ _ _ _ _; have m0 := hx1.cell f0; go_wp2_with fail; exact ⟨rfl, Ext.refl _, rfl, rfl⟩
        · intro w1 hx1; change wpList _ _ _ _ _ _; exact ob_move rfl rfl rfl rfl rfl
        · intro w1 hx1; change wpList _ _ _ _ _ _; exact ob_move rfl rfl rfl rfl rfl
        · intro w1 hx1; rintro _ rfl; rintro _ rfl; change wpList _ _ _ _ _ _; go_wp2_with fail; exact ⟨rfl, Ext.refl _, rfl, rfl⟩
        · intro w1 hx1; rintro _ rfl; change wpList _ _ _ _ _ _; have m0 := hx1.cell g0; go_wp2_with fail; exact ⟨rfl, Ext.refl _, rfl, rfl⟩
        · intro w1 hx1; rintro _ rfl; rintro _ rfl; change wpList _ _ _ _ _ _; go_wp2_with fail; exact ⟨rfl, Ext.refl _, rfl, rfl⟩
      · intro w1 hx1; rintro _ rfl; rintro _ rfl; rintro _ rfl; rintro _ rfl; rintro _ rfl; rintro _ rfl; rintro _ rfl; rintro _ rfl; rintro _ rfl; refine depsThen_nil ?_; dsimp only; simp only [Act.put, List.setIfInBounds_toArray, List.set_cons_zero, List.set_cons_succ]
        have HX := Lib.hid (hx.trans hx1)
        clear hx hx1 f0 g0
        go_wp2_with fail
        go_roundw
        case rel => exact ⟨k + 1, hlt, by go_num, HX.out⟩
        case measure => simp [intOf]; omega
    · obtain rfl : k = N := by omega
      have hI : decide ((k : Int) < (k : Int)) = false := decide_eq_false (by omega)
      go_wp2_with fail
      go_ret
      exact ⟨rfl, hx⟩
end Go.Proofs.Ytlgopjfnknjgjaa
