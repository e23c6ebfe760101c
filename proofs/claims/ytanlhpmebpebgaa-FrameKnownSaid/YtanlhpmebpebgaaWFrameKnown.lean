/- FrameKnown, walked: it answers true and writes nothing that was there. -/
import Derived.Test.YtanlhpmebpebgaaW9
namespace Go.Proofs.Ytanlhpmebpebgaa
open Go.RowKit

theorem makeG {ops : Array Oper} {Q : Exit → Act → World → Prop} {a : Act} {w : World} {rest : List Oper} {o : Oper}
    (l c : Operand) (ho : o.op = .makeSlice 22 l c) (hw : Region.wanted o (yielded ops a.tmps) = true) (n : Nat) (hl : a.eval l = .int .i64 n) (hc : a.eval c = .int .i64 n) (hn : n ≤ 16777216) (base : Nat) (hb : base ≤ w.heap.size)
    (h : ∀ w', OwnB w' base (.slice (some ⟨w.heap.size, 0, none⟩) n n) (List.replicate n 0) → w.grownBy w' none → wpList Try.prog ops Q rest (a.put o.dst (.slice (some ⟨w.heap.size, 0, none⟩) n n)) w') : wpList Try.prog ops Q (o :: rest) a w := by
  obtain ⟨i5, hi5, z5, s5, b5⟩ := info_parts info5
  obtain ⟨w', hr, h1, h2⟩ := run_makeSlice_full (P := Try.prog) (w := w) base 22 5 i5 (.int .u8 0) 1 Try.underlying22 hi5 z5 s5 .i64 .i64 n (by omega) (by rw [b5]; omega) (by simp only [maxLen]; omega) hb
  refine wpList_val hw (by simp [execOp, ho, hl, hc, hr]) (h w' ?_ h2)
  unfold OwnB
  have e : (madeCells (Value.int .u8 0).cells (n * 1)).toList = (List.replicate n (0 : UInt8)).map fun b => Value.int .u8 (b.toNat : Int) := by
    rw [Nat.mul_one]
    have := toList_madeCells_one (Value.int .u8 0) n
    rw [show (Value.int IntKind.u8 0).cells = #[Value.int .u8 0] from rfl, this]; simp
  rw [e] at h1
  simpa using h1

def zer : List UInt8 := List.replicate 2048 0
theorem zer_len : zer.length = 2048 := List.length_replicate
theorem putR_good {r : List UInt8} (h : Good r) : putR r = (fr r, 0) := by
  obtain ⟨h1, h2⟩ := h
  rw [putR, if_neg (by omega), if_neg (by omega)]
theorem putR_long {r : List UInt8} (h : 2048 < r.length) : putR r = ([], 3) := by
  rw [putR, if_neg (by omega), if_pos h]
theorem zer_good : Good zer := ⟨by rw [zer_len]; omega, by rw [zer_len]; omega⟩
theorem puZ : putR zer = (fr zer, 0) := putR_good zer_good
def zel : List UInt8 := List.replicate 2049 0
theorem zel_len : zel.length = 2049 := List.length_replicate
theorem puL : putR zel = ([], 3) := putR_long (by rw [zel_len]; omega)
theorem szL : sizeR zel = 0 := by rw [sizeR, if_neg (by rw [zel_len]; omega)]
theorem frZl : (fr zer).length = 2056 := by rw [fr_length, zer_len]
theorem spZer : splitF (fr zer) = ([zer], 2056) := by
  have := splitF_frs [zer] [] (by intro r hr; rw [List.mem_singleton.1 hr]; exact zer_good)
  have h : frs [zer] = fr zer := by rw [frs, List.map_cons, List.map_nil, List.flatten_cons, List.flatten_nil, List.append_nil]
  have hn : splitF [] = ([], 0) := rfl
  rw [h, List.append_nil, frZl, hn] at this
  exact this
theorem cut_none (r : List UInt8) (h : Good r) (k : Nat) (hk : k < r.length + 8) : nextR ((fr r).take k) = none := by
  by_cases h9 : k < 9
  · exact nextR_short (by rw [List.length_take, fr_length]; omega)
  apply nextR_bad
  obtain ⟨h1, h2⟩ := h
  have e : (fr r).take k = fourF r.length ++ (r ++ fourF (sumF (fourF r.length ++ r))).take (k - 4) := by
    rw [fr, putF, List.append_assoc, List.take_append, fourF_length, List.take_of_length_le (by rw [fourF_length]; omega)]
  have hn : numF ((fr r).take k) = r.length := by rw [e, numF_append _ _ (by rw [fourF_length]; exact Nat.le_refl 4), numF_four (by omega)]
  have hl : ((fr r).take k).length = k := by rw [List.length_take, fr_length]; omega
  omega
theorem spCut : splitF ((fr zer).take 2055) = ([], 0) := splitF_none (cut_none zer zer_good 2055 (by rw [zer_len]; omega))
theorem spNil : splitF [] = ([], 0) := rfl
def lng : List UInt8 := [1, 0, 0, 1, 120, 0, 0, 0, 0, 0, 0]
theorem spLng : splitF lng = ([], 0) := splitF_none (nextR_bad (.inr (.inl (by decide))))
theorem litL (w : World) (fr : Nat × Nat) : Bytes (w.alloc (.cells #[.int .u8 1, .int .u8 0, .int .u8 0, .int .u8 1, .int .u8 120, .int .u8 0, .int .u8 0, .int .u8 0, .int .u8 0, .int .u8 0, .int .u8 0] 5 fr)) (.slice (some ⟨w.heap.size, 0, none⟩) 11 11) lng :=
  bytes_lit w _ fr 11 _ (by simp [lng]) rfl (by decide)

set_option maxRecDepth 100000 in
set_option maxHeartbeats 1000000 in
theorem frameKnown_any (w : World) : Calls Try.prog 15 #[] w fun e w' => e = .returned (.bool true) ∧ Ext w w' := by
  go_enter Try.func15, Try.ntmps15
  go_wp2_with (at_make; refine makeB _ _ rfl rfl 2048 rfl rfl (by omega) w.heap.size (Nat.le_refl _) ?_; intro w1 ho1 hg1; have hx1 : Ext w w1 := Below.grown (Below.refl _ _) hg1 (Nat.le_refl _) (by simp))
  refine (fput_any _ _ zer ho1.bytes).mono ?_
  rw [puZ]
  rintro e w2 ⟨v2, rfl, ho2, hx2⟩
  have hb2 : Bytes w2 v2 (fr zer) := OwnB.bytes ho2
  obtain ⟨g2, c2, rfl⟩ := OwnB.some (n := 2056) (l := fr zer) ho2 frZl (by rw [frZl]; decide)
  replace hx2 := hx1.trans hx2
  clear hx1 ho1 hg1 ho2
  go_wp2_with (at_make; refine makeB _ _ rfl rfl 2049 rfl rfl (by omega) w2.heap.size (Nat.le_refl _) ?_; intro w3 ho3 hg3; have hx3 : Ext w2 w3 := Below.grown (Below.refl _ _) hg3 (Nat.le_refl _) (by simp))
  refine (fput_any _ _ zel (OwnB.bytes ho3)).mono ?_
  rw [puL]
  rintro e w4 ⟨v4, rfl, -, hx4⟩
  replace hb2 := hb2.ext (hx3.trans hx4)
  replace hx2 := hx2.trans (hx3.trans hx4)
  clear hx3 hx4 ho3 hg3
  go_wp2_with fail
  refine (split_any _ _ _ hb2 (by rw [frZl]; decide)).mono ?_
  rw [spZer]
  rintro e w5 ⟨vl, us, rfl, ho5, hr5, hx5⟩
  have hl5 : Lists w5 vl [zer] := Recs.lists hr5 ho5
  replace hb2 := hb2.ext hx5
  replace hx2 := hx2.trans hx5
  clear hx5 ho5 hr5
  have hlt : 2055 ≤ (fr zer).length := by rw [frZl]; decide
  go_wp2_with (refine cutB (.tmp 33) none (some (.tmp 36)) 0 2055 rfl rfl hb2 rfl ⟨_, _, rfl, by decide, by decide⟩ (Nat.zero_le _) hlt ?_; intro v37 h37; rw [List.drop_zero] at h37)
  refine (split_any _ _ _ h37 (by rw [List.length_take, frZl]; decide)).mono ?_
  rw [spCut]
  rintro e w6 ⟨v6, us6, rfl, ho6, hr6, hx6⟩
  have hl6 : Lists w6 v6 [] := Recs.lists hr6 ho6
  replace hl5 := hl5.ext hx6
  replace hx2 := hx2.trans hx6
  clear hx6 ho6 hr6 h37 hlt hb2
  go_wp2_with fail
  refine (split_any _ _ _ (Bytes.nil _) (by decide)).mono ?_
  rw [spNil]
  rintro e w7 ⟨v7, us7, rfl, ho7, hr7, hx7⟩
  have hl7 : Lists w7 v7 [] := Recs.lists hr7 ho7
  replace hl5 := hl5.ext hx7
  replace hl6 := hl6.ext hx7
  replace hx2 := hx2.trans hx7
  clear hx7 ho7 hr7
  go_wp2_with fail
  refine (split_any _ _ _ (litL _ _) (by decide)).mono ?_
  rw [spLng]
  rintro e w8 ⟨v8, us8, rfl, ho8, hr8, hx8⟩
  replace hx8 : Ext w7 w8 := ((Ext.refl w7).alloc _).trans hx8
  have hl8 : Lists w8 v8 [] := Recs.lists hr8 ho8
  replace hl5 := hl5.ext hx8
  replace hl6 := hl6.ext hx8
  replace hl7 := hl7.ext hx8
  replace hx2 := hx2.trans hx8
  clear hx8 ho8 hr8
  obtain ⟨a6, c6, rfl, -, -⟩ := hl6.shape
  obtain ⟨a7, c7, rfl, -, -⟩ := hl7.shape
  obtain ⟨a8, c8, rfl, -, -⟩ := hl8.shape
  obtain ⟨a5, c5, rfl, -, -⟩ := hl5.shape
  obtain ⟨b5, o5, u5, rfl, hu5, hb5⟩ := hl5.at (k := 0) (by decide)
  simp only [List.length_cons, List.length_nil, Nat.zero_add, Nat.add_zero] at hu5 ⊢
  replace hb5 : Bytes w8 u5 zer := hb5
  obtain ⟨a9, c9, rfl, -, -⟩ := hb5.shape
  have hz := zer_len
  rw [hz] at hu5
  clear hl5 hl6 hl7 hl8 hz hb5
  go_wp2_with (first | (at_make; refine makeB _ _ rfl rfl 2049 rfl rfl (by omega) w8.heap.size (Nat.le_refl _) ?_; intro w9 ho9 hg9; have hx9 : Ext w8 w9 := Below.grown (Below.refl _ _) hg9 (Nat.le_refl _) (by simp)) | (refine makeG _ _ rfl rfl 2049 rfl rfl (by omega) w8.heap.size (Nat.le_refl _) ?_; intro w9 ho9 hg9; have hx9 : Ext w8 w9 := Below.grown (Below.refl _ _) hg9 (Nat.le_refl _) (by simp)))
  refine (size_any _ _ zel (OwnB.bytes ho9)).mono ?_
  rw [szL]
  rintro e w10 ⟨rfl, rfl⟩
  replace hx2 := hx2.trans hx9
  clear hx9 ho9 hg9
  go_wp2_with fail
  refine (wakes11_any _).mono ?_
  rintro e w11 ⟨rfl, hx11⟩
  go_wp2_with fail
  go_ret
  exact ⟨rfl, hx2.trans hx11⟩

end Go.Proofs.Ytanlhpmebpebgaa
