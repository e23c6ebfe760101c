/- Records: the chapter's rows. -/
import Derived.Test.YtanlhpmebpebgaaW8
namespace Go.Proofs.Ytanlhpmebpebgaa
open Go.RowKit

def rAB : List UInt8 := [97, 98]
def rC : List UInt8 := [99]
theorem puAB : putR rAB = (fr rAB, 0) := rfl
theorem puC : putR rC = (fr rC, 0) := rfl
theorem puN : putR [] = ([], 1) := rfl
theorem szAB : sizeR rAB = 10 := rfl
theorem szN : sizeR [] = 0 := rfl
theorem spAB : splitF (([] ++ fr rAB ++ fr rC) ++ [7]) = ([rAB, rC], 19) := by
  have h : ([] ++ fr rAB ++ fr rC) ++ [7] = frs [rAB, rC] ++ [7] := by simp [frs]
  have hg : ∀ r ∈ [rAB, rC], Good r := by
    intro r hr
    rcases List.mem_cons.1 hr with rfl | hr
    · decide
    · rw [List.mem_singleton.1 hr]; decide
  rw [h, splitF_frs _ _ hg, splitF_none (nextR_short (by decide))]
  have : (frs [rAB, rC]).length = 19 := by simp [frs, fr_length, rAB, rC]
  rw [this]; rfl
theorem spZ : splitF (List.replicate 20 0) = ([], 0) := splitF_none (nextR_bad (.inl (by decide)))
theorem frABl : (fr rAB).length = 10 := rfl
theorem frCl : (fr rC).length = 9 := rfl
theorem len1 : ([] : List UInt8).length + (fr rAB).length ≤ 140737488355328 := by rw [frABl]; decide
theorem len2 : ([] ++ fr rAB).length + (fr rC).length ≤ 140737488355328 := by rw [List.length_append, frABl, frCl]; decide
theorem len3 : ([] ++ fr rAB ++ fr rC).length + ([7] : List UInt8).length ≤ 140737488355328 := by rw [List.length_append, List.length_append, frABl, frCl]; decide
theorem litAB (w : World) (fr : Nat × Nat) : Bytes (w.alloc (.cells #[.int .u8 97, .int .u8 98] 5 fr)) (.slice (some ⟨w.heap.size, 0, none⟩) 2 2) rAB :=
  bytes_lit w _ fr 2 _ (by simp [rAB]) rfl (by decide)
theorem litC (w : World) (fr : Nat × Nat) : Bytes (w.alloc (.cells #[.int .u8 99] 5 fr)) (.slice (some ⟨w.heap.size, 0, none⟩) 1 1) rC :=
  bytes_lit w _ fr 1 _ (by simp [rC]) rfl (by decide)
theorem lit7 (w : World) (fr : Nat × Nat) : Bytes (w.alloc (.cells #[.int .u8 7] 5 fr)) (.slice (some ⟨w.heap.size, 0, none⟩) 1 1) [7] :=
  bytes_lit w _ fr 1 _ (by simp) rfl (by decide)

set_option maxRecDepth 100000 in
set_option maxHeartbeats 1000000 in
theorem wakes11_any (w : World) : Calls Try.prog 29 #[] w fun e w' => e = .returned (.bool true) ∧ Ext w w' := by
  have kc := fun (w : World) (C : Array Value) (n c : Nat) => Lib.run_convert_bytes_const (P := Try.prog) w 22 5 C n c Try.underlying22 Try.underlying5
  go_enter Try.func29, Try.ntmps29
  go_wp2_with fail
  refine (fput_any _ _ [] (Bytes.nil _)).mono ?_
  rw [puN]
  rintro e w1 ⟨v1, rfl, -, hx1⟩
  go_wp2_with fail
  refine (fput_any _ _ _ (litAB _ _)).mono ?_
  rw [puAB]
  rintro e w2 ⟨v2, rfl, ho2, hx2⟩
  replace hx2 : Ext w1 w2 := ((Ext.refl w1).alloc _).trans hx2
  replace hx1 : Ext w w2 := hx1.trans hx2
  have hb2 : Bytes w2 v2 (fr rAB) := OwnB.bytes ho2
  clear hx2 ho2
  go_wp2_with fail
  refine (fput_any _ _ _ (litC _ _)).mono ?_
  rw [puC]
  rintro e w3 ⟨v3, rfl, ho3, hx3⟩
  replace hx3 : Ext w2 w3 := ((Ext.refl w2).alloc _).trans hx3
  replace hx1 : Ext w w3 := hx1.trans hx3
  replace hb2 := hb2.ext hx3
  have hb3 : Bytes w3 v3 (fr rC) := OwnB.bytes ho3
  obtain ⟨a2, c2, rfl, -, -⟩ := hb2.shape
  rw [frABl]
  clear hx3 ho3
  have hb2' : Bytes w3 (.slice a2 10 c2) (fr rAB) := by rw [← frABl]; exact hb2
  obtain ⟨a3, c3, rfl, -, -⟩ := hb3.shape
  rw [frCl]
  have hb3' : Bytes w3 (.slice a3 9 c3) (fr rC) := by rw [← frCl]; exact hb3
  clear hb2 hb3
  go_wp2_with (first | (at_builtin; refine appB (.const (.slice none 0 0)) (.tmp 28) rfl rfl w3.heap.size (OwnB.nil _ _) hb2' len1 (Nat.le_refl _) ?_; intro v29 w4 ho4 hg4; have hx4 : Ext w3 w4 := (Ext.refl w3).mono_grown (OwnB.nil w3 w3.heap.size) (Nat.le_refl _) hg4; have hb34 := hb3'.ext hx4) | (at_builtin; refine appB (.tmp 29) (.tmp 30) rfl rfl w3.heap.size ho4 hb34 len2 hx4.size ?_; intro v31 w5 ho5 hg5; have hx5 : Ext w3 w5 := hx4.mono_grown ho4 (Nat.le_refl _) hg5) | (at_builtin; refine appB (.tmp 31) (.tmp 32) rfl rfl w3.heap.size (ho5.ext ((Ext.refl w5).alloc _)) (lit7 _ _) len3 (Nat.le_trans hx5.size ((Ext.refl w5).alloc _).size) ?_; intro v33 w6 ho6 hg6; have hx6 : Ext w3 w6 := (hx5.alloc _).mono_grown (ho5.ext ((Ext.refl w5).alloc _)) (Nat.le_refl _) hg6))
  refine (split_any _ _ _ ho6.bytes (by rw [List.length_append, List.length_append, List.length_append, frABl, frCl]; decide)).mono ?_
  rw [spAB]
  rintro e w7 ⟨vl, us, rfl, ho7, hr7, hx7⟩
  have hl7 : Lists w7 vl [rAB, rC] := Recs.lists hr7 ho7
  replace hx7 : Ext w w7 := hx1.trans (hx6.trans hx7)
  clear hx1 hb2' hb3' hx4 hg4 ho4 hb34 hx5 hg5 ho5 hx6 hg6 ho6 ho7 hr7
  go_wp2_with (at_make; refine makeB _ _ rfl rfl 20 rfl rfl (by omega) w7.heap.size (Nat.le_refl _) ?_; intro w8 ho8 hg8; have hx8 : Ext w7 w8 := Below.grown (Below.refl _ _) hg8 (Nat.le_refl _) (by simp))
  refine (split_any _ _ _ ho8.bytes (by simp)).mono ?_
  rw [spZ]
  rintro e w9 ⟨vz, us9, rfl, ho9, hr9, hx9⟩
  have hl9 : Lists w9 vz [] := Recs.lists hr9 ho9
  have hlA := hl7.ext (hx8.trans hx9)
  replace hx9 : Ext w w9 := hx7.trans (hx8.trans hx9)
  clear hx7 hx8 hg8 ho8 hl7 ho9 hr9
  obtain ⟨az, cz, rfl, -, -⟩ := hl9.shape
  obtain ⟨al, cl, rfl, -, -⟩ := hlA.shape
  obtain ⟨bA, oA, uA, rfl, huA, hbA⟩ := hlA.at (k := 0) (by decide)
  obtain ⟨bB, oB, uB, eB, huB, hbB⟩ := hlA.at (k := 1) (by decide)
  simp only [Option.some.injEq, Addr.mk.injEq, and_true] at eB; obtain ⟨rfl, rfl⟩ := eB
  simp only [List.length_cons, List.length_nil, Nat.zero_add, Nat.reduceAdd, Nat.add_zero] at huA huB ⊢
  replace hbA : Bytes w9 uA rAB := hbA
  replace hbB : Bytes w9 uB rC := hbB
  clear hlA hl9
  go_wp2_with fail
  refine (size_any _ _ [] (Bytes.nil _)).mono ?_
  rw [szN]
  rintro e w10 ⟨rfl, rfl⟩
  go_wp2_with fail
  refine (size_any _ _ _ (litAB _ _)).mono ?_
  rw [szAB]
  rintro e w11 ⟨rfl, hw11⟩
  have hx11 : Ext w9 w11 := by rw [← hw11]; exact (Ext.refl w9).alloc _
  clear hw11
  have huA' := hx11.cell huA
  have huB' := hx11.cell huB
  have hbA' := hbA.ext hx11
  have hbB' := hbB.ext hx11
  replace hx11 := hx9.trans hx11
  clear hx9 huA huB hbA hbB
  have e1 : (rAB == rAB) = true := by decide
  have e2 : (rC == rC) = true := by decide
  have e3 : (ByteArray.mk #[97, 98]) = strOf rAB := rfl
  have e4 : (ByteArray.mk #[99]) = strOf rC := rfl
  go_wp2_with (first | refine strB (.tmp 75) rfl rfl hbA' ?_ | refine strB (.tmp 82) rfl rfl hbB' ?_)
  go_ret
  exact ⟨rfl, hx11⟩

end Go.Proofs.Ytanlhpmebpebgaa
