/- The document's examples of a segment, walked: awake. -/
import Derived.Test.YtkaepcjkpaplfaaDoorN7
import Derived.Test.YtkaepcjkpaplfaaDoorN9
namespace Go.Proofs.YtkaepcjkpaplfaaDoor
open Go.RowKit

def nm17 : List UInt8 := [115, 50, 45, 48, 48, 48, 48, 48, 48, 48, 48, 48, 48, 48, 49, 55]
theorem awName : nameF 2 17 = (nm17, 0) := by decide +kernel
theorem awParse : parseF nm17 = (2, 17, 0) := by decide +kernel
def r5 : List UInt8 := [5, 97]
def r7 : List UInt8 := [7, 98]
theorem awPut5 : putS 5 [97] = (fr r5, 0) := rfl
theorem awPut7 : putS 7 [98] = (fr r7, 0) := rfl
theorem good5 : Good r5 := by decide
theorem good7 : Good r7 := by decide
theorem fr5l : (fr r5).length = 10 := by rw [fr_length]; rfl
theorem fr7l : (fr r7).length = 10 := by rw [fr_length]; rfl
theorem fr57l : (fr r5 ++ fr r7).length = 20 := by rw [List.length_append, fr5l, fr7l]
theorem fr571l : ((fr r5 ++ fr r7) ++ [1]).length = 21 := by rw [List.length_append, fr57l]; rfl
theorem room1 : (fr r5).length + (fr r7).length ≤ 140737488355328 := by rw [fr5l, fr7l]; decide
theorem room2 : (fr r5 ++ fr r7).length + ([1] : List UInt8).length ≤ 140737488355328 := by rw [fr57l]; decide
theorem awSplitL5 : splitL 5 [r5, r7] = ([(5, [97]), (7, [98])], 20) := by decide +kernel
theorem awSplitL6 : splitL 6 [r5] = ([], 0) := by decide +kernel
theorem awSplit5 : splitS ((fr r5 ++ fr r7) ++ [1]) 5 = ([(5, [97]), (7, [98])], 20) := by
  have e : splitF ((fr r5 ++ fr r7) ++ [1]) = ([r5, r7], 20) := by
    have h := splitF_frs [r5, r7] [1] (by intro r hr; simp at hr; rcases hr with rfl | rfl; exact good5; exact good7)
    have hn : splitF [1] = ([], 0) := splitF_none (nextR_short (by decide))
    rw [hn] at h
    have e2 : frs [r5, r7] = fr r5 ++ fr r7 := by simp [frs]
    rw [e2, List.length_append, fr5l, fr7l] at h
    exact h
  unfold splitS
  rw [if_pos (by decide), e]
  exact awSplitL5
theorem awSplit6 : splitS (fr r5) 6 = ([], 0) := by
  have e : splitF (fr r5) = ([r5], 10) := by
    have h := splitF_frs [r5] [] (by intro r hr; simp at hr; rw [hr]; exact good5)
    have hn : splitF [] = ([], 0) := splitF_none (nextR_short (by decide))
    rw [hn] at h
    have e2 : frs [r5] = fr r5 := by simp [frs]
    rw [e2, List.append_nil, fr5l] at h
    exact h
  unfold splitS
  rw [if_pos (by decide), e]
  exact awSplitL6

theorem lit1b (w : World) (x : Int) (c : UInt8) (fr : Nat × Nat) (hx : x = (c.toNat : Int)) : Bytes (w.alloc (.cells #[.int .u8 x] 5 fr)) (.slice (some ⟨w.heap.size, 0, none⟩) 1 1) [c] := by
  have h := bytes_block (w := w.alloc (.cells #[.int .u8 x] 5 fr)) (l := [c]) (g := w.heap.size) (t := 5) (fr := fr) (by rw [heap_alloc_new, hx]; rfl) (by show 1 ≤ _; decide)
  exact h

theorem own_at2 {W : World} {base n : Nat} {v : Value} {xs : List Value} (h : W.ownsRow base 40 2 v n xs) (hn : 0 < n) : ∃ g cap, v = .slice (some ⟨g, 0, none⟩) n cap ∧ n ≤ cap ∧ cap ≤ maxLen ∧ ∀ j, j < n * 2 → W.cell? ⟨g, j, none⟩ = xs[j]? := by
  rcases h.2 with ⟨_, e⟩ | ⟨g, cap, cur, hv, _, hh, h1, h2, _, ht⟩
  · omega
  · refine ⟨g, cap, hv, h1, h2, fun j hj => ?_⟩
    rw [cell_of_row _ _ _ _ _ _ hh, ← ht, List.getElem?_take, if_pos hj]
    simp

set_option maxRecDepth 100000 in
set_option maxHeartbeats 4000000 in
theorem awake_any (w : World) : Calls Tryd.prog 13 #[] w fun e w' => e = .returned (.bool true) ∧ Ext w w' := by
  have kc := fun (w : World) (C : Array Value) (n c : Nat) => Lib.run_convert_bytes_const (P := Tryd.prog) w 34 5 C n c Tryd.underlying34 Tryd.underlying5
  go_enter Tryd.func13, Tryd.ntmps13
  go_wp2_with fail
  refine (name_any _ 2 17 (by omega) (by omega) (by omega)).mono ?_
  rw [awName]
  rintro e w1 ⟨rfl, hx1⟩
  go_wp2_with fail
  refine (parse_any _ nm17 (by decide)).mono ?_
  rw [awParse]
  rintro e w2 ⟨rfl, hx2⟩
  replace hx2 := hx1.trans hx2
  clear hx1
  go_wp2_with fail
  have hl5 := lit1b w2 97 97 (1, 2) rfl
  have hxl : Ext w (w2.alloc (.cells #[.int .u8 97] 5 (1, 2))) := hx2.alloc _
  generalize hwl : w2.alloc (.cells #[.int .u8 97] 5 (1, 2)) = wl at *
  clear hwl
  refine (sput_any _ 5 _ [97] hl5 (by omega)).mono ?_
  rw [awPut5]
  rintro e w3 ⟨va, rfl, hoa, hx3⟩
  simp only [] at hoa
  replace hx3 := hxl.trans hx3
  clear hxl hx2 hl5
  obtain ⟨ga, ca, rfl⟩ := OwnB.some hoa fr5l (by rw [fr5l]; decide)
  go_wp2_with fail
  have hl7 := lit1b w3 98 98 (1, 2) rfl
  have hxl : Ext w3 (w3.alloc (.cells #[.int .u8 98] 5 (1, 2))) := (Ext.refl w3).alloc _
  generalize hwl : w3.alloc (.cells #[.int .u8 98] 5 (1, 2)) = wl2 at *
  clear hwl
  refine (sput_any _ 7 _ [98] hl7 (by omega)).mono ?_
  rw [awPut7]
  rintro e w4 ⟨vb, rfl, hob, hx4⟩
  simp only [] at hob
  replace hx4 := hxl.trans hx4
  obtain ⟨gb, cb, rfl⟩ := OwnB.some hob fr7l (by rw [fr7l]; decide)
  have ha4 := hoa.bytes.ext hx4
  replace hx4 := hx3.trans hx4
  clear hxl hx3 hl7 hoa
  go_wp2_with fail
  refine (own03_any _ _ (fr r5) ha4 (by rw [fr5l]; omega)).mono ?_
  rintro e w5 ⟨v5, rfl, ho5, hx5⟩
  have hb5 := hob.bytes.ext hx5
  have ha5 := ha4.ext hx5
  obtain ⟨g5, c5, rfl⟩ := OwnB.some ho5 fr5l (by rw [fr5l]; decide)
  go_wp2_with (first | (at_builtin; refine appB (.tmp 39) (.tmp 40) rfl rfl w4.heap.size ho5 hb5 room1 hx5.size ?_; intro v6 w6 ho6 hg6; obtain ⟨g6, c6, rfl⟩ := OwnB.some ho6 fr57l (by rw [fr57l]; decide); have hx6 : Ext w4 w6 := hx5.mono_grown ho5 (Nat.le_refl _) hg6; have ho6' := ho6.ext ((Ext.refl w6).alloc (.cells #[.int .u8 1] 5)); have hl6 := lit_u8 w6 1 1 rfl; have hx6' := (hx6.alloc (.cells #[.int .u8 1] 5)); clear hg6) | (at_builtin; refine appB (.tmp 41) (.tmp 42) rfl rfl w4.heap.size ho6' hl6 room2 hx6'.size ?_; intro v7 w7 ho7 hg7; have hx7 : Ext w4 w7 := hx6'.mono_grown ho6' (Nat.le_refl _) hg7; clear hg7))
  refine (ssplit_any _ _ _ 5 ho7.bytes (by rw [fr571l]; decide)).mono ?_
  rw [awSplit5]
  rintro e w8 ⟨vl, us, rfl, hos, hrs, hx8⟩
  have hx48 := hx7.trans hx8
  have ha8 := ha4.ext hx48
  have hb8 := hob.bytes.ext hx48
  replace hx8 := hx4.trans hx48
  clear ho5 ho6 ho6' hl6 ho7 hx5 hx6 hx6' hx7 ha4 ha5 hb5 hob hx4 hx48
  obtain ⟨u1, u2, rfl⟩ : ∃ u1 u2, us = [u1, u2] := by
    have h2 := hrs.1
    match us, h2 with
    | [a, b], _ => exact ⟨a, b, rfl⟩
  obtain ⟨gs, cs, rfl, hcs1, hcs2, hcells⟩ := own_at2 hos (by show 0 < 2; decide)
  have c2 : w8.cell? ⟨gs, 2, none⟩ = some (.int .u64 u2.n) := hcells 2 (by show 2 < 4; decide)
  have c3 : w8.cell? ⟨gs, 3, none⟩ = some (.slice u2.a u2.m u2.c) := hcells 3 (by show 3 < 4; decide)
  obtain ⟨e7, hd7⟩ := hrs.2 1 u2 (7, [98]) rfl rfl
  obtain ⟨a7, c7, hs7, -, -⟩ := hd7.bytes.shape
  simp only [Value.slice.injEq] at hs7
  obtain ⟨-, hm7, -⟩ := hs7
  simp only [] at e7
  have hd78 := hd7.bytes
  rw [← e7] at c2
  rw [hm7] at c3 hd78
  simp only [List.length_cons, List.length_nil, Nat.zero_add] at c3 hd78
  generalize u2.a = ua at *
  generalize u2.c = uc at *
  clear hcells hd7 hrs hos e7 hm7
  unfold maxLen at hcs2
  have K2 := Lib.hid hx8
  go_wp2_with fail
  refine (ssplit_any _ _ _ 6 ha8 (by rw [fr5l]; decide)).mono ?_
  rw [awSplit6]
  rintro e w9 ⟨vm, um, rfl, hom, hrm, hx9⟩
  have d2 := hx9.cell c2
  have d3 := hx9.cell c3
  have hd9 := hd78.ext hx9
  obtain ⟨am, cm, rfl⟩ := own_slice hom
  have hml : um.length = 0 := hrm.1
  rw [hml]
  clear c2 c3 hd78 hom hrm hml ha8 hb8
  have hnm : Hid (strOf nm17 = ⟨#[115, 50, 45, 48, 48, 48, 48, 48, 48, 48, 48, 48, 48, 48, 49, 55]⟩) := rfl
  rw [hnm.out]
  go_wp2_with (refine strB (.tmp 103) rfl rfl hd9 ?_)
  go_ret
  exact ⟨rfl, K2.out.trans hx9⟩

end Go.Proofs.YtkaepcjkpaplfaaDoor
