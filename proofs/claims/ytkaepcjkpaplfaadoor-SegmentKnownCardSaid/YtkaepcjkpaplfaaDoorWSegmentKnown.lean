/- SegmentKnown, walked: it answers true and writes nothing that was there. -/
import Derived.Test.YtkaepcjkpaplfaaDoorN12
namespace Go.Proofs.YtkaepcjkpaplfaaDoor
open Go.RowKit

theorem from_nil (w : World) : Calls Tryd.prog 25 #[.slice none 0 0, .int .u64 9] w fun e w' => e = .returned (.int .i64 0) ∧ w = w' := by
  go_enter Tryd.func25, Tryd.ntmps25
  go_wp2_with fail
  go_loopw [5, 10] (fun s i wr => s = .int .i64 0 ∧ i = .int .i64 0 ∧ wr = w) (fun _ _ _ => 0)
  case atStart => exact ⟨rfl, rfl, rfl⟩
  case round =>
    obtain ⟨rfl, rfl, rfl⟩ := hrel
    go_wp2_with fail
    go_ret
    exact ⟨rfl, rfl⟩

set_option maxHeartbeats 1000000 in
theorem places_bad (w : World) (B : Nat) (hB : w.heap[B]? = some (.cells #[.int .u64 0, .slice none 0 0] 40 (0, 0))) : Calls Tryd.prog 26 #[.slice (some ⟨B, 0, none⟩) 1 1] w fun e w' => e = .returned (.slice none 0 0) ∧ Ext w w' := by
  have c0 := cell_of_row w B 0 _ _ _ hB
  have c1 := cell_of_row w B 1 _ _ _ hB
  simp at c0 c1
  have hput : putS 0 [] = ([], 1) := rfl
  go_enter Tryd.func26, Tryd.ntmps26
  go_wp2_with fail
  go_loopw [3, 11] (fun s i wr => s = .slice none 0 0 ∧ i = .int .i64 0 ∧ wr = w) (fun _ _ _ => 0)
  case atStart => exact ⟨rfl, rfl, rfl⟩
  case round =>
    obtain ⟨rfl, rfl, rfl⟩ := hrel
    go_wp2_with fail
    refine (sput_any _ 0 _ [] (Bytes.nil _) (by omega)).mono ?_
    rw [hput]
    rintro e w1 ⟨v1, rfl, -, hx1⟩
    go_wp2_with fail
    go_ret
    exact ⟨rfl, ((Ext.refl _).alloc _).trans hx1⟩

def zs (n : Nat) : List UInt8 := List.replicate n 0
theorem zs_len (n : Nat) : (zs n).length = n := List.length_replicate
def nms : List (List UInt8) := [[115, 50, 45, 49, 55], [115, 50, 45, 48, 48, 48, 48, 48, 48, 48, 48, 48, 48, 48, 48, 48], [115, 52, 45, 48, 48, 48, 48, 48, 48, 48, 48, 48, 48, 48, 48, 49], [116, 48, 45, 48, 48, 48, 48, 48, 48, 48, 48, 48, 48, 48, 48, 49], [115, 48, 95, 48, 48, 48, 48, 48, 48, 48, 48, 48, 48, 48, 48, 49], [115, 48, 45, 48, 48, 48, 48, 48, 48, 48, 48, 48, 48, 48, 48, 97], [115, 48, 45, 49, 48, 57, 57, 53, 49, 49, 54, 50, 55, 55, 55, 55], [], [115, 48, 45, 48, 48, 48, 48, 48, 48, 48, 48, 48, 48, 48, 48, 48, 49]]
theorem knBad : ∀ k, k < 9 → parseF (nms.getD k []) = (0, 0, 5) ∧ (nms.getD k []).length ≤ 100 := by
  intro k hk
  have h : ∀ k : Fin 9, parseF (nms.getD k.val []) = (0, 0, 5) ∧ (nms.getD k.val []).length ≤ 100 := by decide +kernel
  exact h ⟨k, hk⟩
theorem knA : nameF 4 1 = ([], 1) := by decide +kernel
theorem knB : nameF 0 0 = ([], 1) := by decide +kernel
theorem knC : nameF (-1) 1 = ([], 1) := by decide +kernel
theorem knD : nameF 0 1099511627777 = ([], 1) := by decide +kernel
def nm3 : List UInt8 := [115, 51, 45, 49, 48, 57, 57, 53, 49, 49, 54, 50, 55, 55, 55, 54]
theorem knE : nameF 3 1099511627776 = (nm3, 0) := by decide +kernel
theorem knG : putS 0 [] = ([], 1) := rfl
theorem knH : putS 1 (zs 1501) = ([], 3) := by
  unfold putS
  rw [if_neg (by decide), if_pos (by rw [zs_len]; omega)]
theorem knI : putS 1099511627777 [] = ([], 1) := by
  unfold putS
  rw [if_pos (by decide)]
theorem knJ : putS 1 (zs 1500) = (fr (vput 1 ++ zs 1500), 0) := by
  unfold putS
  rw [if_neg (by decide), if_neg (by rw [zs_len]; omega)]
theorem knJl : (fr (vput 1 ++ zs 1500)).length = 1509 := by
  have h1 : (vput 1).length = 1 := by decide
  have h2 := zs_len 1500
  generalize vput 1 = a at *
  generalize zs 1500 = b at *
  rw [fr_length, List.length_append]
  omega
theorem knL (b : List UInt8) : splitS b 0 = ([], 0) := by
  unfold splitS
  rw [if_neg (by decide)]

set_option maxRecDepth 100000 in
set_option maxHeartbeats 4000000 in
theorem segmentKnown_any (w : World) : Calls Tryd.prog 7 #[] w fun e w' => e = .returned (.bool true) ∧ Ext w w' := by
  have hcells : ∀ k, k < 9 → (w.alloc (.cells #[.string ⟨#[115, 50, 45, 49, 55]⟩, .string ⟨#[115, 50, 45, 48, 48, 48, 48, 48, 48, 48, 48, 48, 48, 48, 48, 48]⟩, .string ⟨#[115, 52, 45, 48, 48, 48, 48, 48, 48, 48, 48, 48, 48, 48, 48, 49]⟩, .string ⟨#[116, 48, 45, 48, 48, 48, 48, 48, 48, 48, 48, 48, 48, 48, 48, 49]⟩, .string ⟨#[115, 48, 95, 48, 48, 48, 48, 48, 48, 48, 48, 48, 48, 48, 48, 49]⟩, .string ⟨#[115, 48, 45, 48, 48, 48, 48, 48, 48, 48, 48, 48, 48, 48, 48, 97]⟩, .string ⟨#[115, 48, 45, 49, 48, 57, 57, 53, 49, 49, 54, 50, 55, 55, 55, 55]⟩, .string ⟨#[]⟩, .string ⟨#[115, 48, 45, 48, 48, 48, 48, 48, 48, 48, 48, 48, 48, 48, 48, 48, 49]⟩] 9)).cell? ⟨w.heap.size, k, none⟩ = some (.string (strOf (nms.getD k []))) := by
    intro k hk
    rw [cell_of_row _ _ _ _ _ _ (heap_alloc_new _ _)]
    match k, hk with
    | 0, _ => rfl
    | 1, _ => rfl
    | 2, _ => rfl
    | 3, _ => rfl
    | 4, _ => rfl
    | 5, _ => rfl
    | 6, _ => rfl
    | 7, _ => rfl
    | 8, _ => rfl
  have hx0 : Ext w (w.alloc (.cells #[.string ⟨#[115, 50, 45, 49, 55]⟩, .string ⟨#[115, 50, 45, 48, 48, 48, 48, 48, 48, 48, 48, 48, 48, 48, 48, 48]⟩, .string ⟨#[115, 52, 45, 48, 48, 48, 48, 48, 48, 48, 48, 48, 48, 48, 48, 49]⟩, .string ⟨#[116, 48, 45, 48, 48, 48, 48, 48, 48, 48, 48, 48, 48, 48, 48, 49]⟩, .string ⟨#[115, 48, 95, 48, 48, 48, 48, 48, 48, 48, 48, 48, 48, 48, 48, 49]⟩, .string ⟨#[115, 48, 45, 48, 48, 48, 48, 48, 48, 48, 48, 48, 48, 48, 48, 97]⟩, .string ⟨#[115, 48, 45, 49, 48, 57, 57, 53, 49, 49, 54, 50, 55, 55, 55, 55]⟩, .string ⟨#[]⟩, .string ⟨#[115, 48, 45, 48, 48, 48, 48, 48, 48, 48, 48, 48, 48, 48, 48, 48, 49]⟩] 9)) := (Ext.refl w).alloc _
  have HC := Lib.hid hcells
  clear hcells
  go_enter Tryd.func7, Tryd.ntmps7
  go_wp2_with fail
  generalize w.alloc (.cells #[.string ⟨#[115, 50, 45, 49, 55]⟩, .string ⟨#[115, 50, 45, 48, 48, 48, 48, 48, 48, 48, 48, 48, 48, 48, 48, 48]⟩, .string ⟨#[115, 52, 45, 48, 48, 48, 48, 48, 48, 48, 48, 48, 48, 48, 48, 49]⟩, .string ⟨#[116, 48, 45, 48, 48, 48, 48, 48, 48, 48, 48, 48, 48, 48, 48, 49]⟩, .string ⟨#[115, 48, 95, 48, 48, 48, 48, 48, 48, 48, 48, 48, 48, 48, 48, 49]⟩, .string ⟨#[115, 48, 45, 48, 48, 48, 48, 48, 48, 48, 48, 48, 48, 48, 48, 97]⟩, .string ⟨#[115, 48, 45, 49, 48, 57, 57, 53, 49, 49, 54, 50, 55, 55, 55, 55]⟩, .string ⟨#[]⟩, .string ⟨#[115, 48, 45, 48, 48, 48, 48, 48, 48, 48, 48, 48, 48, 48, 48, 48, 49]⟩] 9) = wa at *
  go_loopw [28] (fun i wr => ∃ k : Nat, k ≤ 9 ∧ i = .int .i64 k ∧ Ext wa wr) (fun i _ => 9 - (intOf i).toNat)
  case atStart => exact ⟨0, Nat.zero_le _, rfl, Ext.refl _⟩
  case round =>
    obtain ⟨k, hk, rfl, hx⟩ := hrel
    by_cases hlt : k < 9
    · have hd : decide ((k : Int) < 9) = true := decide_eq_true (by omega)
      have hc := hx.cell (HC.out k hlt)
      obtain ⟨hbad, hlen⟩ := knBad k hlt
      have HBAD := Lib.hid hbad
      clear hbad
      generalize nms.getD k [] = s at *
      go_wp2_with fail
      refine (parse_any _ s (by omega)).mono ?_
      rw [HBAD.out]
      rintro e w1 ⟨rfl, hx1⟩
      go_wp2_with fail
      go_roundw
      case rel => exact ⟨k + 1, hlt, by go_num, hx.trans hx1⟩
      case measure => simp [intOf]; omega
    · obtain rfl : k = 9 := by omega
      have hxw := hx0.trans hx
      clear HC hx hx0
      go_wp2_with fail
      refine (name_any _ 4 1 (by omega) (by omega) (by omega)).mono ?_
      rw [knA]
      rintro e x0 ⟨rfl, hy⟩
      replace hxw := hxw.trans hy
      clear hy
      go_wp2_with fail
      refine (name_any _ 0 0 (by omega) (by omega) (by omega)).mono ?_
      rw [knB]
      rintro e x1 ⟨rfl, hy⟩
      replace hxw := hxw.trans hy
      clear hy
      go_wp2_with fail
      refine (name_any _ (-1) 1 (by omega) (by omega) (by omega)).mono ?_
      rw [knC]
      rintro e x2 ⟨rfl, hy⟩
      replace hxw := hxw.trans hy
      clear hy
      go_wp2_with fail
      refine (name_any _ 0 1099511627777 (by omega) (by omega) (by omega)).mono ?_
      rw [knD]
      rintro e x3 ⟨rfl, hy⟩
      replace hxw := hxw.trans hy
      clear hy
      go_wp2_with fail
      refine (name_any _ 3 1099511627776 (by omega) (by omega) (by omega)).mono ?_
      rw [knE]
      rintro e x4 ⟨rfl, hy⟩
      replace hxw := hxw.trans hy
      clear hy
      go_wp2_with fail
      refine (sput_any _ 0 _ [] (Bytes.nil _) (by omega)).mono ?_
      rw [knG]
      rintro e y1 ⟨va, rfl, -, hy⟩
      replace hxw := hxw.trans hy
      clear hy
      go_wp2_with (at_make; refine makeB _ _ rfl rfl 1501 rfl rfl (by omega) y1.heap.size (Nat.le_refl _) ?_; intro y2 ho2 hg2; have hxa : Ext y1 y2 := Below.grown (Below.refl _ _) hg2 (Nat.le_refl _) (by simp); replace hxw := hxw.trans hxa)
      refine (sput_any _ 1 _ (zs 1501) ho2.bytes (by omega)).mono ?_
      rw [knH]
      rintro e y3 ⟨vb, rfl, -, hy⟩
      replace hxw := hxw.trans hy
      clear hy hxa ho2 hg2
      go_wp2_with fail
      refine (sput_any _ 1099511627777 _ [] (Bytes.nil _) (by omega)).mono ?_
      rw [knI]
      rintro e y4 ⟨vc, rfl, -, hy⟩
      replace hxw := hxw.trans hy
      clear hy
      go_wp2_with (at_make; refine makeB _ _ rfl rfl 1500 rfl rfl (by omega) y4.heap.size (Nat.le_refl _) ?_; intro y5 ho5 hg5; have hxb : Ext y4 y5 := Below.grown (Below.refl _ _) hg5 (Nat.le_refl _) (by simp); replace hxw := hxw.trans hxb)
      refine (sput_any _ 1 _ (zs 1500) ho5.bytes (by omega)).mono ?_
      rw [knJ]
      rintro e y6 ⟨vd, rfl, hod, hy⟩
      simp only [] at hod
      replace hxw := hxw.trans hy
      clear hy hxb ho5 hg5
      have hjl := knJl
      generalize fr (vput 1 ++ zs 1500) = J at *
      obtain ⟨gj, cj, rfl⟩ := OwnB.some hod hjl (by rw [hjl]; omega)
      have hJ := hod.bytes
      have HJL := Lib.hid hjl
      clear hod hjl
      go_wp2_with fail
      refine (ssplit_any _ _ J 0 hJ (by rw [HJL.out]; omega)).mono ?_
      rw [knL]
      rintro e y7 ⟨vl, us, rfl, hos, hrs, hy⟩
      obtain ⟨al, cl, rfl⟩ := own_slice hos
      have hul : us.length = 0 := hrs.1
      rw [hul]
      replace hxw := hxw.trans hy
      clear hy hos hrs hul hJ
      go_wp2_with fail
      refine (awake_any _).mono ?_
      rintro e y8 ⟨rfl, hy⟩
      replace hxw := hxw.trans hy
      clear hy
      have hnm : Hid (strOf nm3 = ⟨#[115, 51, 45, 49, 48, 57, 57, 53, 49, 49, 54, 50, 55, 55, 55, 54]⟩) := rfl
      rw [hnm.out]
      go_wp2_with fail
      refine (from_nil _).mono ?_
      rintro e y9 ⟨rfl, rfl⟩
      go_wp2_with fail
      refine (places_bad _ y8.heap.size (heap_alloc_new _ _)).mono ?_
      rintro e y10 ⟨rfl, hy⟩
      go_wp2_with fail
      go_ret
      exact ⟨rfl, (hxw.alloc _).trans hy⟩

end Go.Proofs.YtkaepcjkpaplfaaDoor
