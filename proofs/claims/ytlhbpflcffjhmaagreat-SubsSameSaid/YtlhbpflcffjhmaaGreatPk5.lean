/- The cuts around a value: around.
Spans where they lie; slices.IndexFunc, ContainsFunc at spans, at strings, at slices (printed by gen_find.py).
Appending to a row of the call's own: whose block the answer is. (Of any program.)
Spans without others: minus.
Compaction by what a function says of the elements: as slices.CompactFunc does it. No program is in sight.
slices.DeleteFunc at spans. -/
import Derived.IntWalk
import Derived.RegionTactic
import Derived.ChangeAlike
import Derived.Deep.CutBlock
import Derived.Lib.Hide
import Derived.Deep.QuietTactic
import Derived.BigQuiet
import Derived.Test.YtlhbpflcffjhmaaGreatPk4
import Derived.Test.YtlhbpflcffjhmaaGreatPk2
import Derived.Test.YtlhbpflcffjhmaaGreatPk1
import Derived.Test.YtlhbpflcffjhmaaGreatPk3
namespace Go.Proofs.YtlhbpflcffjhmaaGreat
open Go.RowKit

theorem info96t : (Tryz.prog.info? 152).map (·.size) = some 2 := by kernel_rfl
/-- The three boxes that around makes. -/
theorem around_boxes (w : World) (v : V) : Ext w (((w.alloc (.cells #[.int .i64 v.k, .int .i64 v.n, .string (strOf v.s), .bool v.b] 61)).alloc (.cells #[.string ⟨#[]⟩, .bool false] 152)).alloc (.cells #[.string ⟨#[]⟩, .bool false] 152)) ∧ (((w.alloc (.cells #[.int .i64 v.k, .int .i64 v.n, .string (strOf v.s), .bool v.b] 61)).alloc (.cells #[.string ⟨#[]⟩, .bool false] 152)).alloc (.cells #[.string ⟨#[]⟩, .bool false] 152)).heap[w.heap.size]? = some (.cells #[.int .i64 v.k, .int .i64 v.n, .string (strOf v.s), .bool v.b] 61 (0, 0)) ∧ (((w.alloc (.cells #[.int .i64 v.k, .int .i64 v.n, .string (strOf v.s), .bool v.b] 61)).alloc (.cells #[.string ⟨#[]⟩, .bool false] 152)).alloc (.cells #[.string ⟨#[]⟩, .bool false] 152)).heap[w.heap.size + 1]? = some (.cells #[.string ⟨#[]⟩, .bool false] 152 (0, 0)) ∧ (((w.alloc (.cells #[.int .i64 v.k, .int .i64 v.n, .string (strOf v.s), .bool v.b] 61)).alloc (.cells #[.string ⟨#[]⟩, .bool false] 152)).alloc (.cells #[.string ⟨#[]⟩, .bool false] 152)).heap[w.heap.size + 1 + 1]? = some (.cells #[.string ⟨#[]⟩, .bool false] 152 (0, 0)) := by
  refine ⟨(((Ext.refl w).alloc _).alloc _).alloc _, ?_, ?_, ?_⟩
  · have h := heap_alloc_new w (.cells #[.int .i64 v.k, .int .i64 v.n, .string (strOf v.s), .bool v.b] 61)
    rw [(((Ext.refl _).alloc (.cells #[.string ⟨#[]⟩, .bool false] 152)).alloc (.cells #[.string ⟨#[]⟩, .bool false] 152)).block _ (by rw [World.size_alloc]; omega)]
    exact h
  · have h := heap_alloc_new (w.alloc (.cells #[.int .i64 v.k, .int .i64 v.n, .string (strOf v.s), .bool v.b] 61)) (.cells #[.string ⟨#[]⟩, .bool false] 152)
    rw [World.size_alloc] at h
    rw [((Ext.refl _).alloc (.cells #[.string ⟨#[]⟩, .bool false] 152)).block _ (by rw [World.size_alloc, World.size_alloc]; omega)]
    exact h
  · have h := heap_alloc_new ((w.alloc (.cells #[.int .i64 v.k, .int .i64 v.n, .string (strOf v.s), .bool v.b] 61)).alloc (.cells #[.string ⟨#[]⟩, .bool false] 152)) (.cells #[.string ⟨#[]⟩, .bool false] 152)
    rw [World.size_alloc, World.size_alloc] at h; exact h


set_option maxRecDepth 100000 in
set_option maxHeartbeats 4000000 in
theorem around_str (w : World) (v : V) (hk : v.k = 2) (hs : v.s.length ≤ 140737488355328) :
    Calls Tryz.prog 170 #[.agg #[.int .i64 v.k, .int .i64 v.n, .string (strOf v.s), .bool v.b]] w fun e w' => e = .returned (.tuple #[.agg #[.string (strOf v.s), .bool false], .agg #[.string (strOf (v.s ++ [0])), .bool false]]) ∧ Ext w w' := by
  obtain ⟨hx0, hV, hB, hC⟩ := around_boxes w v
  have v0 := cell_of_row _ _ 0 _ _ _ hV
  have v1 := cell_of_row _ _ 1 _ _ _ hV
  have v2 := cell_of_row _ _ 2 _ _ _ hV
  have v3 := cell_of_row _ _ 3 _ _ _ hV
  have HB := Lib.hid hB
  have HC := Lib.hid hC
  clear hV hB hC

  have d1 : (v.k == 1) = false := by rw [hk]; rfl
  have d2 : (v.k == 2) = true := by rw [hk]; rfl
  have hcat : strOf v.s ++ ⟨#[0]⟩ = strOf (v.s ++ [0]) := by
    refine ByteArray.ext ?_
    show (strOf v.s ++ (⟨#[0]⟩ : ByteArray)).data = _
    rw [ByteArray.data_append]
    show v.s.toArray ++ #[0] = (v.s ++ [0]).toArray
    rw [← List.append_toArray]
  have hq : ¬ (9223372036854775807 < (strOf v.s).size + 1) := by
    have e : (strOf v.s).size = v.s.length := by show v.s.toArray.size = _; simp
    omega
  have HCAT := Lib.hid hcat
  clear hk hcat
  go_enter Tryz.func170, Tryz.ntmps170
  go_upto_region 6 with fail
  generalize ((w.alloc (.cells #[.int .i64 v.k, .int .i64 v.n, .string (strOf v.s), .bool v.b] 61)).alloc (.cells #[.string ⟨#[]⟩, .bool false] 152)).alloc (.cells #[.string ⟨#[]⟩, .bool false] 152) = w0 at *
  refine Rs.wp_region_facts (StepB (w.heap.size + 1) (w.heap.size + 1 + 1) (.cells #[.string (strOf v.s), .bool false] 152 (0, 0)) (.cells #[.string (strOf (v.s ++ [0])), .bool false] 152 (0, 0))) [Rs.Fact.eq _ (.pointer (some ⟨w.heap.size, 2, none⟩)),
      Rs.Fact.eq _ (.string (strOf v.s)),
      Rs.Fact.eq _ (.agg #[.string (strOf v.s), .bool false]),
      Rs.Fact.eq _ (.pointer (some ⟨w.heap.size, 2, none⟩)),
      Rs.Fact.eq _ (.string (strOf v.s)),
      Rs.Fact.eq _ (.string (strOf (v.s ++ [0]))),
      Rs.Fact.eq _ (.agg #[.string (strOf (v.s ++ [0])), .bool false]),
      factL (w.heap.size + 1) (w.heap.size + 1 + 1) (.cells #[.string (strOf v.s), .bool false] 152 (0, 0)) (.cells #[.string (strOf (v.s ++ [0])), .bool false] 152 (0, 0)),
      factR (w.heap.size + 1) (w.heap.size + 1 + 1) (.cells #[.string (strOf v.s), .bool false] 152 (0, 0)) (.cells #[.string (strOf (v.s ++ [0])), .bool false] 152 (0, 0))]
    [[], [(0, 32)], [(1, 33)], [], [(3, 35)], [(4, 36)], [(5, 37)], [(2, 34)], [(6, 38)]]
    [(0, 32), (1, 33), (2, 34), (3, 35), (4, 36), (5, 37), (6, 38)] (by kernel_rfl) (by kernel_rfl) ?_ ?_
  · refine ⟨?_, ?_, ?_, ?_, ?_, ?_, ?_, ?_, ?_, trivial⟩
    · intro w1 hx1; change wpList _ _ _ _ _ _; go_wp2_with fail; exact ⟨rfl, (StepB (w.heap.size + 1) (w.heap.size + 1 + 1) (.cells #[.string (strOf v.s), .bool false] 152 (0, 0)) (.cells #[.string (strOf (v.s ++ [0])), .bool false] 152 (0, 0))).refl _, rfl, rfl⟩
    · intro w1 hx1; rintro _ rfl; change wpList _ _ _ _ _ _; have m := hx1.cell v2 (by simp) (by simp; omega); go_wp2_with fail; exact ⟨rfl, (StepB (w.heap.size + 1) (w.heap.size + 1 + 1) (.cells #[.string (strOf v.s), .bool false] 152 (0, 0)) (.cells #[.string (strOf (v.s ++ [0])), .bool false] 152 (0, 0))).refl _, rfl, rfl⟩
    · intro w1 hx1; rintro _ rfl; change wpList _ _ _ _ _ _; go_wp2_with fail; exact ⟨rfl, (StepB (w.heap.size + 1) (w.heap.size + 1 + 1) (.cells #[.string (strOf v.s), .bool false] 152 (0, 0)) (.cells #[.string (strOf (v.s ++ [0])), .bool false] 152 (0, 0))).refl _, rfl, rfl⟩
    · intro w1 hx1; change wpList _ _ _ _ _ _; go_wp2_with fail; exact ⟨rfl, (StepB (w.heap.size + 1) (w.heap.size + 1 + 1) (.cells #[.string (strOf v.s), .bool false] 152 (0, 0)) (.cells #[.string (strOf (v.s ++ [0])), .bool false] 152 (0, 0))).refl _, rfl, rfl⟩
    · intro w1 hx1; rintro _ rfl; change wpList _ _ _ _ _ _; have m := hx1.cell v2 (by simp) (by simp; omega); go_wp2_with fail; exact ⟨rfl, (StepB (w.heap.size + 1) (w.heap.size + 1 + 1) (.cells #[.string (strOf v.s), .bool false] 152 (0, 0)) (.cells #[.string (strOf (v.s ++ [0])), .bool false] 152 (0, 0))).refl _, rfl, rfl⟩
    · intro w1 hx1; rintro _ rfl; change wpList _ _ _ _ _ _; rw [← HCAT.out]; go_wp2_with fail; exact ⟨rfl, (StepB (w.heap.size + 1) (w.heap.size + 1 + 1) (.cells #[.string (strOf v.s), .bool false] 152 (0, 0)) (.cells #[.string (strOf (v.s ++ [0])), .bool false] 152 (0, 0))).refl _, rfl, rfl⟩
    · intro w1 hx1; rintro _ rfl; change wpList _ _ _ _ _ _; go_wp2_with fail; exact ⟨rfl, (StepB (w.heap.size + 1) (w.heap.size + 1 + 1) (.cells #[.string (strOf v.s), .bool false] 152 (0, 0)) (.cells #[.string (strOf (v.s ++ [0])), .bool false] 152 (0, 0))).refl _, rfl, rfl⟩
    · intro w1 hx1; rintro _ rfl; change wpList _ _ _ _ _ _; exact ob_left 152 _ _ #[.string (strOf v.s), .bool false] _ 152 rfl rfl rfl rfl rfl rfl hx1 HB.out rfl info96t (by simp [Value.oneCell']) (by omega) fun _ h1 h2 => ⟨h1, h2⟩
    · intro w1 hx1; rintro _ rfl; change wpList _ _ _ _ _ _; exact ob_right 152 _ _ #[.string (strOf (v.s ++ [0])), .bool false] _ 152 rfl rfl rfl rfl rfl rfl hx1 HC.out rfl info96t (by simp [Value.oneCell']) (by omega) fun _ h1 h2 => ⟨h1, h2⟩
  · intro w1 hx1 hno; rintro _ rfl; rintro _ rfl; rintro _ rfl; rintro _ rfl; rintro _ rfl; rintro _ rfl; rintro _ rfl; refine depsThen_nil ?_; dsimp only; simp only [Act.put, List.setIfInBounds_toArray, List.set_cons_zero, List.set_cons_succ]
    have o7 : (factL (w.heap.size + 1) (w.heap.size + 1 + 1) (.cells #[.string (strOf v.s), .bool false] 152 (0, 0)) (.cells #[.string (strOf (v.s ++ [0])), .bool false] 152 (0, 0))).p undef w1 := hno 7 (by decide) rfl
    have o8 : (factR (w.heap.size + 1) (w.heap.size + 1 + 1) (.cells #[.string (strOf v.s), .bool false] 152 (0, 0)) (.cells #[.string (strOf (v.s ++ [0])), .bool false] 152 (0, 0))).p undef w1 := hno 8 (by decide) rfl
    clear hno
    go_wp2_with fail
    have L := o7.2
    have R := o8.2
    have r0 := cell_of_row _ _ 0 _ _ _ L
    have r1 := cell_of_row _ _ 1 _ _ _ L
    have s0 := cell_of_row _ _ 0 _ _ _ R
    have s1 := cell_of_row _ _ 1 _ _ _ R
    refine bodyPost_ret (v := .tuple #[.agg #[.string (strOf v.s), .bool false], .agg #[.string (strOf (v.s ++ [0])), .bool false]]) (by simp [results, Tryz.results170, go_sem, r0, r1, s0, s1]) rfl ⟨rfl, StB.ext hx0 hx1 (by omega) (by omega)⟩

set_option maxRecDepth 100000 in
set_option maxHeartbeats 4000000 in
theorem around_num (w : World) (v : V) (hk : v.k = 1) (hn : okN v.n) (hm : v.n ≠ 9223372036854775807) :
    Calls Tryz.prog 170 #[.agg #[.int .i64 v.k, .int .i64 v.n, .string (strOf v.s), .bool v.b]] w fun e w' => e = .returned (.tuple #[.agg #[.string (strOf (numC v.n).a), .bool false], .agg #[.string (strOf (numC (v.n + 1)).a), .bool false]]) ∧ Ext w w' := by
  obtain ⟨hx0, hV, hB, hC⟩ := around_boxes w v
  have v0 := cell_of_row _ _ 0 _ _ _ hV
  have v1 := cell_of_row _ _ 1 _ _ _ hV
  have v2 := cell_of_row _ _ 2 _ _ _ hV
  have v3 := cell_of_row _ _ 3 _ _ _ hV
  have HB := Lib.hid hB
  have HC := Lib.hid hC
  clear hV hB hC

  have hn1 : okN (v.n + 1) := by obtain ⟨h1, h2⟩ := hn; exact ⟨by omega, by omega⟩
  have HN0 := fun W => number_cut W v.n hn
  have HN1 := fun W => number_cut W (v.n + 1) hn1
  have d1 : (v.k == 1) = true := by rw [hk]; rfl
  have d2 : (v.n == 9223372036854775807) = false := beq_eq_false_iff_ne.2 hm
  obtain ⟨hn2, hn3⟩ := hn
  have hn4 : v.n + 1 ≤ 9223372036854775807 := by omega
  have wr1 : IntKind.i64.wrap (v.n + 1) = v.n + 1 := IntWalk.i64_in _ (by omega)
  clear hk hm hn1
  generalize strOf (numC v.n).a = lo at *
  generalize strOf (numC (v.n + 1)).a = hi at *
  generalize hnn : v.n = n at *
  have HNN := Lib.hid hnn
  clear hnn
  go_enter Tryz.func170, Tryz.ntmps170
  go_upto_region 4 with fail
  generalize ((w.alloc (.cells #[.int .i64 v.k, .int .i64 v.n, .string (strOf v.s), .bool v.b] 61)).alloc (.cells #[.string ⟨#[]⟩, .bool false] 152)).alloc (.cells #[.string ⟨#[]⟩, .bool false] 152) = w0 at *
  refine Rs.wp_region_facts (StepB (w.heap.size + 1) (w.heap.size + 1 + 1) (.cells #[.string lo, .bool false] 152 (0, 0)) (.cells #[.string hi, .bool false] 152 (0, 0))) [Rs.Fact.eq _ (.pointer (some ⟨w.heap.size, 1, none⟩)),
      Rs.Fact.eq _ (.int .i64 n),
      Rs.Fact.eq _ (.agg #[.string lo, .bool false]),
      Rs.Fact.eq _ (.pointer (some ⟨w.heap.size, 1, none⟩)),
      Rs.Fact.eq _ (.int .i64 n),
      Rs.Fact.eq _ (.int .i64 (n + 1)),
      Rs.Fact.eq _ (.agg #[.string hi, .bool false]),
      factL (w.heap.size + 1) (w.heap.size + 1 + 1) (.cells #[.string lo, .bool false] 152 (0, 0)) (.cells #[.string hi, .bool false] 152 (0, 0)),
      factR (w.heap.size + 1) (w.heap.size + 1 + 1) (.cells #[.string lo, .bool false] 152 (0, 0)) (.cells #[.string hi, .bool false] 152 (0, 0))]
    [[], [(0, 21)], [(1, 22)], [], [(3, 24)], [(4, 25)], [(5, 26)], [(2, 23)], [(6, 27)]]
    [(0, 21), (1, 22), (2, 23), (3, 24), (4, 25), (5, 26), (6, 27)] (by kernel_rfl) (by kernel_rfl) ?_ ?_
  · refine ⟨?_, ?_, ?_, ?_, ?_, ?_, ?_, ?_, ?_, trivial⟩
    · intro w1 hx1; change wpList _ _ _ _ _ _; go_wp2_with fail; exact ⟨rfl, (StepB (w.heap.size + 1) (w.heap.size + 1 + 1) (.cells #[.string lo, .bool false] 152 (0, 0)) (.cells #[.string hi, .bool false] 152 (0, 0))).refl _, rfl, rfl⟩
    · intro w1 hx1; rintro _ rfl; change wpList _ _ _ _ _ _; have m := hx1.cell v1 (by simp) (by simp; omega); go_wp2_with fail; exact ⟨rfl, (StepB (w.heap.size + 1) (w.heap.size + 1 + 1) (.cells #[.string lo, .bool false] 152 (0, 0)) (.cells #[.string hi, .bool false] 152 (0, 0))).refl _, rfl, rfl⟩
    · intro w1 hx1; rintro _ rfl; change wpList _ _ _ _ _ _; go_wp2_with fail; refine (HN0 w1).mono ?_; rintro e w2 ⟨rfl, hx2⟩; go_wp2_with fail; exact ⟨rfl, StB.of_ext hx2, rfl, rfl⟩
    · intro w1 hx1; change wpList _ _ _ _ _ _; go_wp2_with fail; exact ⟨rfl, (StepB (w.heap.size + 1) (w.heap.size + 1 + 1) (.cells #[.string lo, .bool false] 152 (0, 0)) (.cells #[.string hi, .bool false] 152 (0, 0))).refl _, rfl, rfl⟩
    · intro w1 hx1; rintro _ rfl; change wpList _ _ _ _ _ _; have m := hx1.cell v1 (by simp) (by simp; omega); go_wp2_with fail; exact ⟨rfl, (StepB (w.heap.size + 1) (w.heap.size + 1 + 1) (.cells #[.string lo, .bool false] 152 (0, 0)) (.cells #[.string hi, .bool false] 152 (0, 0))).refl _, rfl, rfl⟩
    · intro w1 hx1; rintro _ rfl; change wpList _ _ _ _ _ _; go_wp2_with fail; exact ⟨rfl, (StepB (w.heap.size + 1) (w.heap.size + 1 + 1) (.cells #[.string lo, .bool false] 152 (0, 0)) (.cells #[.string hi, .bool false] 152 (0, 0))).refl _, rfl, rfl⟩
    · intro w1 hx1; rintro _ rfl; change wpList _ _ _ _ _ _; go_wp2_with fail; refine (HN1 w1).mono ?_; rintro e w2 ⟨rfl, hx2⟩; go_wp2_with fail; exact ⟨rfl, StB.of_ext hx2, rfl, rfl⟩
    · intro w1 hx1; rintro _ rfl; change wpList _ _ _ _ _ _; exact ob_left 152 _ _ #[.string lo, .bool false] _ 152 rfl rfl rfl rfl rfl rfl hx1 HB.out rfl info96t (by simp [Value.oneCell']) (by omega) fun _ h1 h2 => ⟨h1, h2⟩
    · intro w1 hx1; rintro _ rfl; change wpList _ _ _ _ _ _; exact ob_right 152 _ _ #[.string hi, .bool false] _ 152 rfl rfl rfl rfl rfl rfl hx1 HC.out rfl info96t (by simp [Value.oneCell']) (by omega) fun _ h1 h2 => ⟨h1, h2⟩
  · intro w1 hx1 hno; rintro _ rfl; rintro _ rfl; rintro _ rfl; rintro _ rfl; rintro _ rfl; rintro _ rfl; rintro _ rfl; refine depsThen_nil ?_; dsimp only; simp only [Act.put, List.setIfInBounds_toArray, List.set_cons_zero, List.set_cons_succ]
    have o7 : (factL (w.heap.size + 1) (w.heap.size + 1 + 1) (.cells #[.string lo, .bool false] 152 (0, 0)) (.cells #[.string hi, .bool false] 152 (0, 0))).p undef w1 := hno 7 (by decide) rfl
    have o8 : (factR (w.heap.size + 1) (w.heap.size + 1 + 1) (.cells #[.string lo, .bool false] 152 (0, 0)) (.cells #[.string hi, .bool false] 152 (0, 0))).p undef w1 := hno 8 (by decide) rfl
    clear hno
    go_wp2_with fail
    have L := o7.2
    have R := o8.2
    have r0 := cell_of_row _ _ 0 _ _ _ L
    have r1 := cell_of_row _ _ 1 _ _ _ L
    have s0 := cell_of_row _ _ 0 _ _ _ R
    have s1 := cell_of_row _ _ 1 _ _ _ R
    refine bodyPost_ret (v := .tuple #[.agg #[.string lo, .bool false], .agg #[.string hi, .bool false]]) (by simp [results, Tryz.results170, go_sem, r0, r1, s0, s1]) rfl ⟨rfl, StB.ext hx0 hx1 (by omega) (by omega)⟩

set_option maxRecDepth 100000 in
set_option maxHeartbeats 4000000 in
theorem around_max (w : World) (v : V) (hk : v.k = 1) (hm : v.n = 9223372036854775807) :
    Calls Tryz.prog 170 #[.agg #[.int .i64 v.k, .int .i64 v.n, .string (strOf v.s), .bool v.b]] w fun e w' => e = .returned (.tuple #[.agg #[.string (strOf (numC v.n).a), .bool false], .agg #[.string ⟨#[]⟩, .bool true]]) ∧ Ext w w' := by
  obtain ⟨hx0, hV, hB, hC⟩ := around_boxes w v
  have v0 := cell_of_row _ _ 0 _ _ _ hV
  have v1 := cell_of_row _ _ 1 _ _ _ hV
  have v2 := cell_of_row _ _ 2 _ _ _ hV
  have v3 := cell_of_row _ _ 3 _ _ _ hV
  have HB := Lib.hid hB
  have HC := Lib.hid hC
  clear hV hB hC

  have HN0 := fun W => number_cut W v.n ⟨by omega, by omega⟩
  have d1 : (v.k == 1) = true := by rw [hk]; rfl
  have d2 : (v.n == 9223372036854775807) = true := by rw [hm]; rfl
  clear hk hm
  generalize strOf (numC v.n).a = lo at *
  go_enter Tryz.func170, Tryz.ntmps170
  go_wp2_with fail
  generalize ((w.alloc (.cells #[.int .i64 v.k, .int .i64 v.n, .string (strOf v.s), .bool v.b] 61)).alloc (.cells #[.string ⟨#[]⟩, .bool false] 152)).alloc (.cells #[.string ⟨#[]⟩, .bool false] 152) = w0 at *
  refine (HN0 w0).mono ?_
  rintro e w2 ⟨rfl, hx2⟩
  go_wp2_with fail
  refine (end_any w2).mono ?_
  rintro e w3 ⟨rfl, hx3⟩
  have hx23 := hx2.trans hx3
  have hxw := hx0.trans hx23
  have HBN := Lib.hid ((hx23.block _ (Array.getElem?_eq_some_iff.1 HB.out).1).trans HB.out)
  have HCN := Lib.hid ((hx23.block _ (Array.getElem?_eq_some_iff.1 HC.out).1).trans HC.out)
  clear hx2 hx3 hx23
  go_wp2_with (first | (refine wpList_store_whole 152 (.tmp 2) (.tmp 15) rfl rfl (w.heap.size + 1) rfl #[.string lo, .bool false] rfl _ 152 HBN.out rfl info96t (by simp [Value.oneCell']) ?_; have HB2 := Lib.hid (setRow_heap _ _ _ #[.string lo, .bool false] _ _ HBN.out); have HC2 := Lib.hid ((setRow_other _ (w.heap.size + 1) (w.heap.size + 1 + 1) #[.string lo, .bool false] (by omega)).trans HCN.out)) | (refine wpList_store_whole 152 (.tmp 3) (.tmp 16) rfl rfl (w.heap.size + 1 + 1) rfl #[.string ⟨#[]⟩, .bool true] rfl _ 152 HC2.out rfl info96t (by simp [Value.oneCell']) ?_; have HC3 := Lib.hid (setRow_heap _ _ _ #[.string ⟨#[]⟩, .bool true] _ _ HC2.out); have HB3 := Lib.hid ((setRow_other _ (w.heap.size + 1 + 1) (w.heap.size + 1) #[.string ⟨#[]⟩, .bool true] (by omega)).trans HB2.out)))
  have L := HB3.out
  have R := HC3.out
  have r0 := cell_of_row _ _ 0 _ _ _ L
  have r1 := cell_of_row _ _ 1 _ _ _ L
  have s0 := cell_of_row _ _ 0 _ _ _ R
  have s1 := cell_of_row _ _ 1 _ _ _ R
  refine bodyPost_ret (v := .tuple #[.agg #[.string lo, .bool false], .agg #[.string ⟨#[]⟩, .bool true]]) (by simp [results, Tryz.results170, go_sem, r0, r1, s0, s1]) rfl ⟨rfl, (hxw.setRow (by omega) _).setRow (by omega) _⟩

set_option maxRecDepth 100000 in
set_option maxHeartbeats 4000000 in
theorem around_true (w : World) (v : V) (h1 : v.k ≠ 1) (h2 : v.k ≠ 2) (hb : v.b = true) :
    Calls Tryz.prog 170 #[.agg #[.int .i64 v.k, .int .i64 v.n, .string (strOf v.s), .bool v.b]] w fun e w' => e = .returned (.tuple #[.agg #[.string (strOf [0]), .bool false], .agg #[.string ⟨#[]⟩, .bool true]]) ∧ Ext w w' := by
  obtain ⟨hx0, hV, hB, hC⟩ := around_boxes w v
  have v0 := cell_of_row _ _ 0 _ _ _ hV
  have v1 := cell_of_row _ _ 1 _ _ _ hV
  have v2 := cell_of_row _ _ 2 _ _ _ hV
  have v3 := cell_of_row _ _ 3 _ _ _ hV
  have HB := Lib.hid hB
  have HC := Lib.hid hC
  clear hV hB hC

  have d1 := beq_int_ne h1
  have d2 := beq_int_ne h2
  generalize v.b = vb at *
  subst hb
  clear h1 h2
  go_enter Tryz.func170, Tryz.ntmps170
  go_wp2_with fail
  generalize ((w.alloc (.cells #[.int .i64 v.k, .int .i64 v.n, .string (strOf v.s), .bool true] 61)).alloc (.cells #[.string ⟨#[]⟩, .bool false] 152)).alloc (.cells #[.string ⟨#[]⟩, .bool false] 152) = w0 at *
  refine (end_any w0).mono ?_
  rintro e w3 ⟨rfl, hx3⟩
  have hxw := hx0.trans hx3
  have HBN := Lib.hid ((hx3.block _ (Array.getElem?_eq_some_iff.1 HB.out).1).trans HB.out)
  have HCN := Lib.hid ((hx3.block _ (Array.getElem?_eq_some_iff.1 HC.out).1).trans HC.out)
  clear hx3
  go_wp2_with (first | (refine wpList_store_whole 152 (.tmp 2) (.tmp 42) rfl rfl (w.heap.size + 1) rfl #[.string ⟨#[0]⟩, .bool false] rfl _ 152 HBN.out rfl info96t (by simp [Value.oneCell']) ?_; have HB2 := Lib.hid (setRow_heap _ _ _ #[.string ⟨#[0]⟩, .bool false] _ _ HBN.out); have HC2 := Lib.hid ((setRow_other _ (w.heap.size + 1) (w.heap.size + 1 + 1) #[.string ⟨#[0]⟩, .bool false] (by omega)).trans HCN.out)) | (refine wpList_store_whole 152 (.tmp 3) (.tmp 43) rfl rfl (w.heap.size + 1 + 1) rfl #[.string ⟨#[]⟩, .bool true] rfl _ 152 HC2.out rfl info96t (by simp [Value.oneCell']) ?_; have HC3 := Lib.hid (setRow_heap _ _ _ #[.string ⟨#[]⟩, .bool true] _ _ HC2.out); have HB3 := Lib.hid ((setRow_other _ (w.heap.size + 1 + 1) (w.heap.size + 1) #[.string ⟨#[]⟩, .bool true] (by omega)).trans HB2.out)))
  have L := HB3.out
  have R := HC3.out
  have r0 := cell_of_row _ _ 0 _ _ _ L
  have r1 := cell_of_row _ _ 1 _ _ _ L
  have s0 := cell_of_row _ _ 0 _ _ _ R
  have s1 := cell_of_row _ _ 1 _ _ _ R
  refine bodyPost_ret (v := .tuple #[.agg #[.string ⟨#[0]⟩, .bool false], .agg #[.string ⟨#[]⟩, .bool true]]) (by simp [results, Tryz.results170, go_sem, r0, r1, s0, s1]) rfl ⟨rfl, (hxw.setRow (by omega) _).setRow (by omega) _⟩

set_option maxRecDepth 100000 in
set_option maxHeartbeats 4000000 in
theorem around_false (w : World) (v : V) (h1 : v.k ≠ 1) (h2 : v.k ≠ 2) (hb : v.b = false) :
    Calls Tryz.prog 170 #[.agg #[.int .i64 v.k, .int .i64 v.n, .string (strOf v.s), .bool v.b]] w fun e w' => e = .returned (.tuple #[.agg #[.string (strOf []), .bool false], .agg #[.string (strOf [0]), .bool false]]) ∧ Ext w w' := by
  obtain ⟨hx0, hV, hB, hC⟩ := around_boxes w v
  have v0 := cell_of_row _ _ 0 _ _ _ hV
  have v1 := cell_of_row _ _ 1 _ _ _ hV
  have v2 := cell_of_row _ _ 2 _ _ _ hV
  have v3 := cell_of_row _ _ 3 _ _ _ hV
  have HB := Lib.hid hB
  have HC := Lib.hid hC
  clear hV hB hC

  have d1 := beq_int_ne h1
  have d2 := beq_int_ne h2
  generalize v.b = vb at *
  subst hb
  clear h1 h2
  have HBN := HB
  have HCN := HC
  go_enter Tryz.func170, Tryz.ntmps170
  go_upto_region 9 with fail
  generalize ((w.alloc (.cells #[.int .i64 v.k, .int .i64 v.n, .string (strOf v.s), .bool false] 61)).alloc (.cells #[.string ⟨#[]⟩, .bool false] 152)).alloc (.cells #[.string ⟨#[]⟩, .bool false] 152) = w0 at *
  go_wp2_with (first | (refine wpList_store_whole 152 (.tmp 2) (.tmp 44) rfl rfl (w.heap.size + 1) rfl #[.string ⟨#[]⟩, .bool false] rfl _ 152 HBN.out rfl info96t (by simp [Value.oneCell']) ?_; have HB2 := Lib.hid (setRow_heap _ _ _ #[.string ⟨#[]⟩, .bool false] _ _ HBN.out); have HC2 := Lib.hid ((setRow_other _ (w.heap.size + 1) (w.heap.size + 1 + 1) #[.string ⟨#[]⟩, .bool false] (by omega)).trans HCN.out)) | (refine wpList_store_whole 152 (.tmp 3) (.tmp 45) rfl rfl (w.heap.size + 1 + 1) rfl #[.string ⟨#[0]⟩, .bool false] rfl _ 152 HC2.out rfl info96t (by simp [Value.oneCell']) ?_; have HC3 := Lib.hid (setRow_heap _ _ _ #[.string ⟨#[0]⟩, .bool false] _ _ HC2.out); have HB3 := Lib.hid ((setRow_other _ (w.heap.size + 1 + 1) (w.heap.size + 1) #[.string ⟨#[0]⟩, .bool false] (by omega)).trans HB2.out)))
  have L := HB3.out
  have R := HC3.out
  have r0 := cell_of_row _ _ 0 _ _ _ L
  have r1 := cell_of_row _ _ 1 _ _ _ L
  have s0 := cell_of_row _ _ 0 _ _ _ R
  have s1 := cell_of_row _ _ 1 _ _ _ R
  refine bodyPost_ret (v := .tuple #[.agg #[.string ⟨#[]⟩, .bool false], .agg #[.string ⟨#[0]⟩, .bool false]]) (by simp [results, Tryz.results170, go_sem, r0, r1, s0, s1]) rfl ⟨rfl, (hx0.setRow (by omega) _).setRow (by omega) _⟩

theorem cuts_eq {w : World} {v : V} {x y : Cut} (a b : ByteArray) (p q : Bool) (ha : strOf x.a = a) (hp : x.e = p) (hb : strOf y.a = b) (hq : y.e = q)
    (h : Calls Tryz.prog 170 #[.agg #[.int .i64 v.k, .int .i64 v.n, .string (strOf v.s), .bool v.b]] w fun e w' => e = .returned (.tuple #[.agg #[.string a, .bool p], .agg #[.string b, .bool q]]) ∧ Ext w w') :
    Calls Tryz.prog 170 #[.agg #[.int .i64 v.k, .int .i64 v.n, .string (strOf v.s), .bool v.b]] w fun e w' => e = .returned (.tuple #[.agg #[.string (strOf x.a), .bool x.e], .agg #[.string (strOf y.a), .bool y.e]]) ∧ Ext w w' := by
  subst ha; subst hp; subst hb; subst hq
  exact h
theorem around_any (w : World) (v : V) (hn : okN v.n) (hs : v.s.length ≤ 140737488355328) :
    Calls Tryz.prog 170 #[.agg #[.int .i64 v.k, .int .i64 v.n, .string (strOf v.s), .bool v.b]] w fun e w' => e = .returned (.tuple #[.agg #[.string (strOf (aroundV v).1.a), .bool (aroundV v).1.e], .agg #[.string (strOf (aroundV v).2.a), .bool (aroundV v).2.e]]) ∧ Ext w w' := by
  obtain ⟨c, hc⟩ : ∃ c, c = aroundV v := ⟨_, rfl⟩
  rw [← hc]
  by_cases h1 : v.k = 1
  · by_cases hm : v.n = 9223372036854775807
    · have e : c = (numC v.n, endC) := by rw [hc]; unfold aroundV; rw [if_pos h1, if_pos hm]
      have e1 : c.1 = numC v.n := by rw [e]
      have e2 : c.2 = endC := by rw [e]
      exact cuts_eq _ _ _ _ (by rw [e1]) (by rw [e1]; rfl) (by rw [e2]; rfl) (by rw [e2]; rfl) (around_max w v h1 hm)
    · have e : c = (numC v.n, numC (v.n + 1)) := by rw [hc]; unfold aroundV; rw [if_pos h1, if_neg hm]
      have e1 : c.1 = numC v.n := by rw [e]
      have e2 : c.2 = numC (v.n + 1) := by rw [e]
      exact cuts_eq _ _ _ _ (by rw [e1]) (by rw [e1]; rfl) (by rw [e2]) (by rw [e2]; rfl) (around_num w v h1 hn hm)
  · by_cases h2 : v.k = 2
    · have e : c = (⟨v.s, false⟩, ⟨v.s ++ [0], false⟩) := by rw [hc]; unfold aroundV; rw [if_neg h1, if_pos h2]
      have e1 : c.1 = ⟨v.s, false⟩ := by rw [e]
      have e2 : c.2 = ⟨v.s ++ [0], false⟩ := by rw [e]
      exact cuts_eq _ _ _ _ (by rw [e1]) (by rw [e1]) (by rw [e2]) (by rw [e2]) (around_str w v h2 hs)
    · cases hb : v.b with
      | true =>
        have e : c = (⟨[0], false⟩, endC) := by rw [hc]; unfold aroundV; rw [if_neg h1, if_neg h2, if_pos hb]
        have e1 : c.1 = ⟨[0], false⟩ := by rw [e]
        have e2 : c.2 = endC := by rw [e]
        have h := around_true w v h1 h2 hb
        rw [← hb]
        exact cuts_eq _ _ _ _ (by rw [e1]) (by rw [e1]) (by rw [e2]; rfl) (by rw [e2]; rfl) h
      | false =>
        have e : c = (⟨[], false⟩, ⟨[0], false⟩) := by rw [hc]; unfold aroundV; rw [if_neg h1, if_neg h2, if_neg (by rw [hb]; decide)]
        have e1 : c.1 = ⟨[], false⟩ := by rw [e]
        have e2 : c.2 = ⟨[0], false⟩ := by rw [e]
        have h := around_false w v h1 h2 hb
        rw [← hb]
        exact cuts_eq _ _ _ _ (by rw [e1]) (by rw [e1]) (by rw [e2]) (by rw [e2]) h
end Go.Proofs.YtlhbpflcffjhmaaGreat

namespace Go.Proofs.YtlhbpflcffjhmaaGreat
open Go.RowKit

def spC (x : Sp) : List Value := [.string (strOf x.lo.a), .bool x.lo.e, .string (strOf x.hi.a), .bool x.hi.e]
theorem spC_len (x : Sp) : (spC x).length = 4 := rfl
theorem spC_one (l : List Sp) : ∀ u ∈ l.flatMap spC, u.oneCell' = true := by
  intro u hu
  obtain ⟨x, _, hx⟩ := List.mem_flatMap.1 hu
  simp only [spC, List.mem_cons, List.not_mem_nil, or_false] at hx
  rcases hx with rfl | rfl | rfl | rfl <;> rfl
def SpR (W : World) (h : Value) (l : List Sp) : Prop := Row W 4 h l.length (l.flatMap spC)
theorem SpR.ext {W W' : World} {h : Value} {l : List Sp} (k : SpR W h l) (hx : Ext W W') : SpR W' h l := Row.ext k hx
theorem SpR.nil (W : World) : SpR W (.slice none 0 0) [] := Row.nil W 4
theorem SpR.at {W : World} {a : Option Addr} {n cap : Nat} {l : List Sp} (h : SpR W (.slice a n cap) l) {k : Nat} (hk : k < l.length) :
    ∃ B o, a = some ⟨B, o, none⟩ ∧ W.cell? ⟨B, o + k * 4, none⟩ = some (.string (strOf l[k].lo.a)) ∧ W.cell? ⟨B, o + k * 4 + 1, none⟩ = some (.bool l[k].lo.e) ∧ W.cell? ⟨B, o + k * 4 + 2, none⟩ = some (.string (strOf l[k].hi.a)) ∧ W.cell? ⟨B, o + k * 4 + 3, none⟩ = some (.bool l[k].hi.e) := by
  obtain ⟨B, o, rfl⟩ := Row.base h (by omega) (by decide)
  have g := fun j hj => flat_get spC 4 spC_len l k hk j hj
  exact ⟨B, o, rfl, Row.cellAt h (g 0 (by decide)) (by omega), Row.cellAt h (g 1 (by decide)) (by omega), Row.cellAt h (g 2 (by decide)) (by omega), Row.cellAt h (g 3 (by decide)) (by omega)⟩

def StrR (W : World) (h : Value) (l : List (List UInt8)) : Prop := Row W 1 h l.length (l.map fun s => Value.string (strOf s))
theorem StrR.ext {W W' : World} {h : Value} {l : List (List UInt8)} (k : StrR W h l) (hx : Ext W W') : StrR W' h l := Row.ext k hx
theorem StrR.nil (W : World) : StrR W (.slice none 0 0) [] := Row.nil W 1
theorem StrR.at {W : World} {a : Option Addr} {n cap : Nat} {l : List (List UInt8)} (h : StrR W (.slice a n cap) l) {k : Nat} (hk : k < l.length) :
    ∃ B o, a = some ⟨B, o, none⟩ ∧ W.cell? ⟨B, o + k, none⟩ = some (.string (strOf l[k])) := by
  obtain ⟨B, o, rfl⟩ := Row.base h (by omega) (by decide)
  exact ⟨B, o, rfl, Row.cellAt h (by rw [List.getElem?_map, List.getElem?_eq_getElem hk]; rfl) (by omega)⟩
/-- A row of slices. -/
def SlR (W : World) (h : Value) (l : List (Option Addr × Nat × Nat)) : Prop := Row W 1 h l.length (l.map fun s => Value.slice s.1 s.2.1 s.2.2)
theorem SlR.ext {W W' : World} {h : Value} {l : List (Option Addr × Nat × Nat)} (k : SlR W h l) (hx : Ext W W') : SlR W' h l := Row.ext k hx
theorem SlR.at {W : World} {a : Option Addr} {n cap : Nat} {l : List (Option Addr × Nat × Nat)} (h : SlR W (.slice a n cap) l) {k : Nat} (hk : k < l.length) :
    ∃ B o, a = some ⟨B, o, none⟩ ∧ W.cell? ⟨B, o + k, none⟩ = some (.slice l[k].1 l[k].2.1 l[k].2.2) := by
  obtain ⟨B, o, rfl⟩ := Row.base h (by omega) (by decide)
  exact ⟨B, o, rfl, Row.cellAt h (by rw [List.getElem?_map, List.getElem?_eq_getElem hk]; rfl) (by omega)⟩

set_option maxRecDepth 100000 in
set_option maxHeartbeats 2000000 in
theorem idxSp_any (w : World) (v : Value) (l : List (Sp)) (h : SpR w v l) (g : Nat) (cb : Array Value) (p : Sp → Bool) (eg : ∀ args w, (callFunc g args).run Tryz.prog w = .ok (.enter g args) w)
    (hc : ∀ (W : World) (x : Sp) , Ext w W → x ∈ l → Calls Tryz.prog g (#[.agg #[.string (strOf x.lo.a), .bool x.lo.e, .string (strOf x.hi.a), .bool x.hi.e]] ++ cb) W fun e W' => e = .returned (.bool (p x)) ∧ Ext W W') :
    Calls Tryz.prog 214 #[v, .func (.func g) #[] cb] w fun e w' => e = .returned (.int .i64 (idxP p l)) ∧ Ext w w' := by
  obtain ⟨a, cap, rfl, hcc, hm⟩ := Row.shape h
  unfold maxLen at hm
  generalize hn : l.length = n at *
  have HN := Lib.hid hn
  clear hn
  have HC := Lib.hid hc
  clear hc
  go_enter Tryz.func214, Tryz.ntmps214
  go_wp2_with fail
  go_loopw [5, 8] (fun _ i wr => ∃ k : Nat, k ≤ n ∧ i = .int .i64 k ∧ Hid (∀ x ∈ l.take k, p x = false) ∧ Ext w wr) (fun _ i _ => n - (intOf i).toNat)
  case atStart => exact ⟨0, Nat.zero_le _, rfl, (by show ∀ x ∈ l.take 0, _; simp), Ext.refl w⟩
  case round =>
    obtain ⟨k, hk, rfl, hall, hx⟩ := hrel
    by_cases hlt : k < n
    · have k1 : k < l.length := by rw [HN.out]; exact hlt
      have hI : decide ((k : Int) < (n : Int)) = true := decide_eq_true (by omega)
      have hext := h.ext hx
      obtain ⟨B1, o1, rfl, f0, f1, f2, f3⟩ := SpR.at hext k1
      have hcall := HC.out _ l[k] hx (List.getElem_mem k1)
      have hhit : p l[k] = true → idxP p l = k := fun e => idxP_hit k1 hall.out e
      have hnext : p l[k] = false → ∀ x ∈ l.take (k + 1), p x = false := fun e x hx => by
        rw [List.take_succ_eq_append_getElem k1] at hx
        rcases List.mem_append.1 hx with hx | hx
        · exact hall.out x hx
        · rw [List.mem_singleton.1 hx]; exact e
      generalize l[k] = x at *
      have HCALL := Lib.hid hcall
      clear hcall
      cases hq : p x with
      | true =>
        have hres := Lib.hid (hhit hq)
        have HQ := Lib.hid hq
        clear hhit hnext hq
        go_wp2_with (go_at_fn g; refine HCALL.out.mono ?_; rw [HQ.out]; rintro e w2 ⟨rfl, hx2⟩)
        go_ret
        exact ⟨by rw [hres.out]; rfl, hx.trans hx2⟩
      | false =>
        have hres := Lib.hid (hnext hq)
        have HQ := Lib.hid hq
        clear hhit hnext hq
        go_wp2_with (go_at_fn g; refine HCALL.out.mono ?_; rw [HQ.out]; rintro e w2 ⟨rfl, hx2⟩)
        go_roundw
        case rel => exact ⟨k + 1, hlt, by go_num, hres.out, hx.trans hx2⟩
        case measure => simp [intOf]; omega
    · obtain rfl : k = n := by omega
      have hI : decide ((k : Int) < (k : Int)) = false := decide_eq_false (by omega)
      have hres : Hid (idxP p l = -1) := by
        show _ = _
        refine idxP_miss fun x hx => hall.out x ?_
        rw [List.take_of_length_le (by rw [HN.out]; exact Nat.le_refl _)]; exact hx
      go_wp2_with fail
      go_ret
      exact ⟨by rw [hres.out]; rfl, hx⟩

set_option maxRecDepth 100000 in
set_option maxHeartbeats 2000000 in
theorem idxSl_any (w : World) (v : Value) (l : List (Option Addr × Nat × Nat)) (h : SlR w v l) (g : Nat) (cb : Array Value) (p : Option Addr × Nat × Nat → Bool) (eg : ∀ args w, (callFunc g args).run Tryz.prog w = .ok (.enter g args) w)
    (hc : ∀ (W : World) (x : Option Addr × Nat × Nat) , Ext w W → x ∈ l → Calls Tryz.prog g (#[.slice x.1 x.2.1 x.2.2] ++ cb) W fun e W' => e = .returned (.bool (p x)) ∧ Ext W W') :
    Calls Tryz.prog 168 #[v, .func (.func g) #[] cb] w fun e w' => e = .returned (.int .i64 (idxP p l)) ∧ Ext w w' := by
  obtain ⟨a, cap, rfl, hcc, hm⟩ := Row.shape h
  unfold maxLen at hm
  generalize hn : l.length = n at *
  have HN := Lib.hid hn
  clear hn
  have HC := Lib.hid hc
  clear hc
  go_enter Tryz.func168, Tryz.ntmps168
  go_wp2_with fail
  go_loopw [5, 8] (fun _ i wr => ∃ k : Nat, k ≤ n ∧ i = .int .i64 k ∧ Hid (∀ x ∈ l.take k, p x = false) ∧ Ext w wr) (fun _ i _ => n - (intOf i).toNat)
  case atStart => exact ⟨0, Nat.zero_le _, rfl, (by show ∀ x ∈ l.take 0, _; simp), Ext.refl w⟩
  case round =>
    obtain ⟨k, hk, rfl, hall, hx⟩ := hrel
    by_cases hlt : k < n
    · have k1 : k < l.length := by rw [HN.out]; exact hlt
      have hI : decide ((k : Int) < (n : Int)) = true := decide_eq_true (by omega)
      have hext := h.ext hx
      obtain ⟨B1, o1, rfl, f0⟩ := SlR.at hext k1
      have hcall := HC.out _ l[k] hx (List.getElem_mem k1)
      have hhit : p l[k] = true → idxP p l = k := fun e => idxP_hit k1 hall.out e
      have hnext : p l[k] = false → ∀ x ∈ l.take (k + 1), p x = false := fun e x hx => by
        rw [List.take_succ_eq_append_getElem k1] at hx
        rcases List.mem_append.1 hx with hx | hx
        · exact hall.out x hx
        · rw [List.mem_singleton.1 hx]; exact e
      generalize l[k] = x at *
      have HCALL := Lib.hid hcall
      clear hcall
      cases hq : p x with
      | true =>
        have hres := Lib.hid (hhit hq)
        have HQ := Lib.hid hq
        clear hhit hnext hq
        go_wp2_with (go_at_fn g; refine HCALL.out.mono ?_; rw [HQ.out]; rintro e w2 ⟨rfl, hx2⟩)
        go_ret
        exact ⟨by rw [hres.out]; rfl, hx.trans hx2⟩
      | false =>
        have hres := Lib.hid (hnext hq)
        have HQ := Lib.hid hq
        clear hhit hnext hq
        go_wp2_with (go_at_fn g; refine HCALL.out.mono ?_; rw [HQ.out]; rintro e w2 ⟨rfl, hx2⟩)
        go_roundw
        case rel => exact ⟨k + 1, hlt, by go_num, hres.out, hx.trans hx2⟩
        case measure => simp [intOf]; omega
    · obtain rfl : k = n := by omega
      have hI : decide ((k : Int) < (k : Int)) = false := decide_eq_false (by omega)
      have hres : Hid (idxP p l = -1) := by
        show _ = _
        refine idxP_miss fun x hx => hall.out x ?_
        rw [List.take_of_length_le (by rw [HN.out]; exact Nat.le_refl _)]; exact hx
      go_wp2_with fail
      go_ret
      exact ⟨by rw [hres.out]; rfl, hx⟩

set_option maxRecDepth 100000 in
set_option maxHeartbeats 2000000 in
theorem hasSl_any (w : World) (v : Value) (l : List (Option Addr × Nat × Nat)) (h : SlR w v l) (g : Nat) (cb : Array Value) (p : Option Addr × Nat × Nat → Bool) (eg : ∀ args w, (callFunc g args).run Tryz.prog w = .ok (.enter g args) w)
    (hc : ∀ (W : World) (x : Option Addr × Nat × Nat) , Ext w W → x ∈ l → Calls Tryz.prog g (#[.slice x.1 x.2.1 x.2.2] ++ cb) W fun e W' => e = .returned (.bool (p x)) ∧ Ext W W') :
    Calls Tryz.prog 118 #[v, .func (.func g) #[] cb] w fun e w' => e = .returned (.bool (l.any p)) ∧ Ext w w' := by
  have hcon := idxSl_any w v l h g cb p eg hc
  have hb := Lib.hid (idxP_any p l)
  clear hc
  generalize idxP p l = i at *
  obtain ⟨a, cap, rfl, hcc, hm⟩ := Row.shape h
  go_enter Tryz.func118, Tryz.ntmps118
  go_wp2_with (go_at_call 168; refine hcon.mono ?_; rintro e w' ⟨rfl, hx⟩)
  go_ret
  exact ⟨by rw [hb.out]; rfl, hx⟩


theorem ent133 : ∀ args w, (callFunc 173 args).run Tryz.prog w = .ok (.enter 173 args) w := enters_of Tryz.func173 (by kernel_rfl) rfl
theorem ent81 : ∀ args w, (callFunc 119 args).run Tryz.prog w = .ok (.enter 119 args) w := enters_of Tryz.func119 (by kernel_rfl) rfl
set_option maxRecDepth 100000 in
set_option maxHeartbeats 2000000 in
theorem full133_any (w : World) (x : Sp) : Calls Tryz.prog 173 #[.agg #[.string (strOf x.lo.a), .bool x.lo.e, .string (strOf x.hi.a), .bool x.hi.e]] w fun e w' => e = .returned (.bool (!Cut.lt x.lo x.hi)) ∧ Ext w w' := by
  have hx0 : Ext w (w.alloc (.cells #[.string (strOf x.lo.a), .bool x.lo.e, .string (strOf x.hi.a), .bool x.hi.e] 156)) := (Ext.refl w).alloc _
  have hc := fun W => less_any W x.lo x.hi
  generalize Cut.lt x.lo x.hi = b at *
  go_enter Tryz.func173, Tryz.ntmps173
  go_wp2_with (go_at_call 174; refine (hc _).mono ?_; rintro e w2 ⟨rfl, hx2⟩)
  go_ret
  exact ⟨rfl, hx0.trans hx2⟩
set_option maxRecDepth 100000 in
theorem len81_any (w : World) (a : Option Addr) (n c : Nat) (hn : n ≤ 9223372036854775807) : Calls Tryz.prog 119 #[.slice a n c] w fun e w' => e = .returned (.bool (decide (0 < n))) ∧ Ext w w' := by
  by_cases h : 0 < n
  · have hd : decide ((0 : Int) < (n : Int)) = true := decide_eq_true (by omega)
    rw [decide_eq_true h]
    go_enter Tryz.func119, Tryz.ntmps119
    go_wp2
    go_ret
    exact ⟨rfl, Ext.refl w⟩
  · have hd : decide ((0 : Int) < (n : Int)) = false := decide_eq_false (by omega)
    rw [decide_eq_false h]
    go_enter Tryz.func119, Tryz.ntmps119
    go_wp2
    go_ret
    exact ⟨rfl, Ext.refl w⟩
end Go.Proofs.YtlhbpflcffjhmaaGreat

namespace Go.Proofs.YtlhbpflcffjhmaaGreat
open Go.RowKit

section
variable {P : Program}
theorem run_append_whose {w : World} (base : Nat) (t ty e : TypeId) (i : TypeInfo) (z : Value) (size bytes : Nat) (ht : P.underlying t = some (.slice e)) (hi : P.info? e = some i) (hz : i.zero = some z)
    (hsize : i.size = size) (hby : i.bytes = bytes) (hzs : z.cells.size = size) (hsz : 0 < size) (v : Value) (n : Nat) (xs : List Value) (hown : w.ownsRow base e size v n xs)
    (a : Addr) (m c : Nat) (news : List Value) (hl : news.length = m * size) (hnews : ∀ j u, news[j]? = some u → w.cell? (a.add j) = some u) (h1 : ∀ u ∈ news, u.oneCell' = true) (hm : 0 < m)
    (h63 : n + m ≤ maxLen) (hbytes : (n + m) * bytes ≤ 140737488355328) (hbase : base ≤ w.heap.size) :
    ∃ v' w', (Builtin.append_ #[t, t] ty #[v, .slice (some a) m c]).run P w = .ok v' w' ∧ w'.ownsRow base e size v' (n + m) (xs ++ news) ∧ w.grownBy w' v.ownBlock ∧ (v'.ownBlock = v.ownBlock ∨ v'.ownBlock = some w.heap.size) := by
  obtain ⟨v', w', hr, ho, hg, _⟩ := run_append_own (P := P) (w := w) base t ty e i z size bytes ht hi hz hsize hby hzs hsz v n xs hown a m c news hl hnews h1 h63 hbytes hbase
  refine ⟨v', w', hr, ho, hg, ?_⟩
  subst hsize
  have hsmall : n + m ≤ 9223372036854775807 := by simp only [maxLen] at h63; omega
  rcases hown.2 with ⟨rfl, rfl⟩ | ⟨g, cap, cur, rfl, hbg, hgh, hnc, hcm, hcs, htake⟩
  · have hr2 := run_append_nil (P := P) w t ty e i z ht hi hz a m c news hl hnews hm (by omega) (by rw [hby]; simp only [Nat.zero_add] at hbytes; omega)
    rw [hr2] at hr
    cases hr
    exact .inr rfl
  · by_cases hroom : n + m ≤ cap
    · have hfit : n * i.size + news.length ≤ cur.size := by rw [hl, hcs, ← Nat.add_mul]; exact Nat.mul_le_mul_right _ hroom
      have hr2 := run_append_room (P := P) w t ty e i ht hi g n cap cur hgh a m c news hl hnews h1 hroom hfit
      rw [hr2] at hr
      cases hr
      exact .inl rfl
    · have holds : ∀ j u, xs[j]? = some u → w.cell? ((⟨g, 0, none⟩ : Addr).add j) = some u := hown.cells (g := g) rfl
      have hr2 := run_append_grow (P := P) w t ty e i z ht hi hz ⟨g, 0, none⟩ n cap xs hown.1 holds a m c news hl hnews (by omega) (by omega) (growslice_fits (by omega) (by rw [hby]; exact hbytes))
      rw [hr2] at hr
      cases hr
      exact .inr rfl

/-- 'append(s, x...)' behind memory of the call's own, and whose block the answer is. -/
theorem wpList_append_whose {ops : Array Oper} {Q : Exit → Act → World → Prop} {a : Act} {w : World} {rest : List Oper} {o : Oper}
    (t e : TypeId) (s x : Operand) (ho : o.op = .call { callee := .builtin .append, args := #[s, x], argTypes := #[t, t] })
    (base : Nat) (z : Value) (size bytes : Nat) (ht : P.underlying t = some (.slice e)) (hi : (P.info? e).map (fun i => (i.zero, i.size, i.bytes)) = some (some z, size, bytes))
    (hzs : z.cells.size = size) (hsz : 0 < size)
    (hw : Region.wanted o (yielded ops a.tmps) = true)
    (v : Value) (n : Nat) (xs : List Value) (hs : a.eval s = v) (hown : w.ownsRow base e size v n xs)
    (m : Nat) (news : List Value) (hx : Row w size (a.eval x) m news) (h1 : ∀ u ∈ news, u.oneCell' = true) (hm : 0 < m)
    (hbytes : (n + m) * bytes ≤ 140737488355328) (h63 : n + m ≤ maxLen) (hbase : base ≤ w.heap.size)
    (h : ∀ v' w', w'.ownsRow base e size v' (n + m) (xs ++ news) → w.grownBy w' v.ownBlock → (v'.ownBlock = v.ownBlock ∨ v'.ownBlock = some w.heap.size) → wpList P ops Q rest (a.put o.dst v') w') : wpList P ops Q (o :: rest) a w := by
  obtain ⟨i, hi1, hi2, hi3, hi4⟩ := info_parts hi
  obtain ⟨hl, ad, cap, hv, hc, hmx, hnil, hspot, hcell⟩ := hx
  cases ad with
  | none => have := hnil rfl; omega
  | some p =>
    have hps : p.spot = none := hspot p rfl (by omega)
    have hadd : ∀ j, p.add j = ⟨p.block, p.off + j, none⟩ := fun j => by
      obtain ⟨pb', po', ps⟩ := p
      simp only at hps; subst hps
      unfold Addr.add; split <;> simp_all
    obtain ⟨v', w', hr, ho', hg, hq⟩ := run_append_whose (P := P) (w := w) base t o.type e i z size bytes ht hi1 hi2 hi3 hi4 hzs hsz v n xs hown p m cap news hl (fun j u hj => by
      obtain ⟨p', hp', hcl⟩ := hcell j u hj
      simp only [Option.some.injEq] at hp'; subst hp'
      rw [hadd]; exact hcl) h1 hm h63 hbytes hbase
    rw [← hv] at hr
    refine wpList_val hw ?_ (h v' w' ho' hg hq)
    simp only [execOp, ho, resolve, invoke, builtin, Sem.run_bind, Sem.run_pure, Result.andThen_ok, List.map_toArray, List.map_cons, List.map_nil, hs, hr]

theorem row_kept {w w' : World} {size n : Nat} {v : Value} {xs : List Value} {row : Option Nat} (h : Row w size v n xs) (hg : w.grownBy w' row) (hne : ∀ B o k c, v = .slice (some ⟨B, o, none⟩) k c → some B ≠ row) : Row w' size v n xs := by
  obtain ⟨h1, a, cap, rfl, h3, h4, h5, h6, h7⟩ := h
  refine ⟨h1, a, cap, rfl, h3, h4, h5, h6, fun j u hj => ?_⟩
  obtain ⟨p, rfl, hc⟩ := h7 j u hj
  refine ⟨p, rfl, hg.cell hc ?_⟩
  by_cases h0 : 0 < cap
  · have hs := h6 p rfl h0
    obtain ⟨B, o, sp⟩ := p
    simp only at hs
    subst hs
    exact hne B o _ _ rfl
  · exfalso
    have hjl : j < xs.length := by
      rcases Nat.lt_or_ge j xs.length with h' | h'
      · exact h'
      · rw [List.getElem?_eq_none h'] at hj; cases hj
    have hn : n = 0 := by omega
    rw [hn, Nat.zero_mul] at h1
    omega
end
end Go.Proofs.YtlhbpflcffjhmaaGreat

namespace Go.Proofs.YtlhbpflcffjhmaaGreat
open Go.RowKit Go.Sort

theorem info101t : (Tryz.prog.info? 156).map (fun i => (i.zero, i.size, i.bytes)) = some (some (.agg #[.string ⟨#[]⟩, .bool false, .string ⟨#[]⟩, .bool false]), 4, 48) := by kernel_rfl

/-- A part of a row or struct is stored. -/
theorem wpList_store_part {P : Program} {ops : Array Oper} {Q : Exit → Act → World → Prop} {a : Act} {w : World} {rest : List Oper} {o : Oper}
    (ty : TypeId) (x y : Operand) (ho : o.op = .store ty x y) (hw : Region.wanted o (yielded ops a.tmps) = true)
    (g off : Nat) (hx : a.eval x = .pointer (some ⟨g, off, none⟩)) (cs : Array Value) (hy : a.eval y = .agg cs) (c : Array Value) (t : TypeId) (R : Array Value)
    (hg : w.heap[g]? = some (.cells c t (0, 0))) (hsz : off + cs.size ≤ c.size) (hi : (P.info? ty).map (·.size) = some cs.size) (h1 : ∀ v ∈ cs.toList, v.oneCell' = true)
    (hR : (c.toList.take off ++ cs.toList ++ c.toList.drop (off + cs.size)).toArray = R)
    (h : wpList P ops Q rest (a.put o.dst undef) (w.setRow g R)) : wpList P ops Q (o :: rest) a w := by
  have hst := run_storeCells_at (P := P) g off t cs.toList 0 c w hg (by simpa using hsz) h1
  simp only [Nat.add_zero, Array.length_toList] at hst
  rw [hR] at hst
  have hr : (execOp a.eval o).run P w = .ok .skip (w.setRow g R) := by
    cases hq : P.info? ty with
    | none => simp [hq] at hi
    | some i =>
      have hs : cs.size = i.size := by simp [hq] at hi; omega
      simp [execOp, ho, hx, hy, Instr.storeAt, Instr.sureAddr, storeVar, sizeOf, typeInfo, hq, Value.cells, hs, hst]
  simp only [wpList, hw, if_true]
  refine .inl ?_
  unfold Oper.wp
  rw [hr]
  exact h

theorem flat_take_le {α β : Type} (f : α → List β) (l : List α) (k : Nat) : ((l.take k).flatMap f).length ≤ (l.flatMap f).length := by
  conv => rhs; rw [← List.take_append_drop k l, List.flatMap_append, List.length_append]
  exact Nat.le_add_right _ _
theorem spRow (w : World) (x : Sp) : Row (w.alloc (.cells (spC x).toArray 156)) 4 (.slice (some ⟨w.heap.size, 0, none⟩) 1 1) 1 (spC x) :=
  Row.of_own (World.ownsRow_lit (base := w.heap.size) (e := 156) (size := 4) w (spC x).toArray 1 (Nat.le_refl _) (by decide) rfl)
theorem sp_lit (w : World) (l : List Sp) (hm : l.length ≤ maxLen) : SpR (w.alloc (.cells (l.flatMap spC).toArray 156)) (.slice (some ⟨w.heap.size, 0, none⟩) l.length l.length) l :=
  Row.of_own (World.ownsRow_lit (base := w.heap.size) (e := 156) (size := 4) w (l.flatMap spC).toArray l.length (Nat.le_refl _) hm (by simp only [List.size_toArray]; exact flat_len spC 4 spC_len l))

set_option maxRecDepth 100000 in
set_option maxHeartbeats 8000000 in
theorem minus_any (w : World) (v1 v2 : Value) (l m : List Sp) (h1 : SpR w v1 l) (h2 : SpR w v2 m) (hb : ∀ k, k ≤ m.length → (minusL l (m.take k)).length ≤ 1000000) :
    Calls Tryz.prog 123 #[v1, v2] w fun e w' => ∃ v, e = .returned v ∧ SpR w' v (minusL l m) ∧ Ext w w' := by
  obtain ⟨a1, c1, rfl, _, hm1⟩ := Row.shape h1
  obtain ⟨a2, c2, rfl, _, hm2⟩ := Row.shape h2
  unfold maxLen at hm1 hm2
  have H1 := Lib.hid h1
  have H2 := Lib.hid h2
  have HBD := Lib.hid hb
  clear h1 h2 hb
  obtain ⟨n, hn⟩ : ∃ n, n = m.length := ⟨_, rfl⟩
  have HN := Lib.hid hn
  rw [← hn] at H2 ⊢
  clear hn
  go_enter Tryz.func123, Tryz.ntmps123
  go_wp2_with fail
  go_loopw [0, 6, 7, 9, 10, 11, 13, 16] (fun v _ _ _ _ _ _ i wr => ∃ k : Nat, k ≤ n ∧ i = .int .i64 k ∧ Hid (SpR wr v (minusL l (m.take k))) ∧ Ext w wr) (fun _ _ _ _ _ _ _ i _ => n - (intOf i).toNat)
  case atStart => exact ⟨0, Nat.zero_le _, rfl, H1.out, Ext.refl w⟩
  case round =>
    obtain ⟨k, hk, rfl, hsp, hx⟩ := hrel
    by_cases hlt : k < n
    · have hI : decide ((k : Int) < (n : Int)) = true := decide_eq_true (by omega)
      have k1 : k < m.length := by have := HN.out; omega
      obtain ⟨B2, o2, rfl, f0, f1, f2, f3⟩ := SpR.at (H2.out.ext hx) k1
      have hstep : minusL l (m.take (k + 1)) = (minusL l (m.take k)).flatMap fun s => minus1 s m[k] := by
        rw [List.take_succ_eq_append_getElem k1]; unfold minusL; rw [List.foldl_append]; rfl
      have hbk := HBD.out (k + 1) (by have := HN.out; omega)
      rw [hstep] at hbk
      have HST := Lib.hid hstep
      have HBK := Lib.hid hbk
      have hbl := HBD.out k (by have := HN.out; omega)
      clear hstep hbk
      generalize m[k] = out at *
      obtain ⟨lk, hlk⟩ : ∃ lk, lk = minusL l (m.take k) := ⟨_, rfl⟩
      rw [← hlk] at hsp HST HBK hbl
      clear hlk
      obtain ⟨al, cl, rfl, hcl, hml⟩ := Row.shape hsp.out
      unfold maxLen at hml
      obtain ⟨n3, hn3⟩ : ∃ n3, n3 = lk.length := ⟨_, rfl⟩
      have HN3 := Lib.hid hn3
      rw [← hn3] at hsp hbl ⊢ hcl
      clear hn3
      have hxW : Ext wr (wr.alloc (.cells #[.string (strOf out.lo.a), .bool out.lo.e, .string (strOf out.hi.a), .bool out.hi.e] 156)) := (Ext.refl wr).alloc _
      have hBo := heap_alloc_new wr (.cells #[.string (strOf out.lo.a), .bool out.lo.e, .string (strOf out.hi.a), .bool out.hi.e] 156)
      go_wp2_with fail
      generalize wr.alloc (.cells #[.string (strOf out.lo.a), .bool out.lo.e, .string (strOf out.hi.a), .bool out.hi.e] 156) = W at *
      obtain ⟨wo, hwo⟩ : ∃ wo : World, wo = wr := ⟨_, rfl⟩
      subst hwo
      have HBO := Lib.hid hBo
      clear f0 f1 f2 f3 hBo
      go_loopw [7, 9, 10, 11, 13, 22] (fun st _ _ _ _ i wr => ∃ (j : Nat) (pre : List Sp), j ≤ n3 ∧ i = .int .i64 j ∧ Hid (pre = (lk.take j).flatMap fun s => minus1 s out) ∧ Hid (wr.ownsRow W.heap.size 156 4 st pre.length (pre.flatMap spC)) ∧ Ext W wr) (fun _ _ _ _ _ i _ => n3 - (intOf i).toNat)
      case atStart => exact ⟨0, [], Nat.zero_le _, rfl, rfl, ⟨rfl, .inl ⟨rfl, rfl⟩⟩, Ext.refl _⟩
      case round =>
        obtain ⟨j, pre, hj, rfl, hpre, hown, hy⟩ := hrel
        by_cases hjl : j < n3
        · have hI2 : decide ((j : Int) < (n3 : Int)) = true := decide_eq_true (by omega)
          have j1 : j < lk.length := by have := HN3.out; omega
          obtain ⟨B3, o3, rfl, g0, g1, g2, g3⟩ := SpR.at (hsp.out.ext (hxW.trans hy)) (by have := HN3.out; omega)
          have hnxt : (lk.take (j + 1)).flatMap (fun s => minus1 s out) = pre ++ minus1 lk[j] out := by
            rw [List.take_succ_eq_append_getElem j1, List.flatMap_append, List.flatMap_singleton, ← hpre.out]
          have hlen : pre.length + (minus1 lk[j] out).length ≤ 1000000 := by
            have h1 := flat_take_le (fun s => minus1 s out) lk (j + 1)
            rw [hnxt, List.length_append] at h1
            exact Nat.le_trans h1 HBK.out
          have HNXT := Lib.hid hnxt
          clear hnxt
          generalize lk[j] = s at *
          have hBs := heap_alloc_new wr (.cells #[.string (strOf s.lo.a), .bool s.lo.e, .string (strOf s.hi.a), .bool s.hi.e] 156)
          have hxs : Ext wr (wr.alloc (.cells #[.string (strOf s.lo.a), .bool s.lo.e, .string (strOf s.hi.a), .bool s.hi.e] 156)) := (Ext.refl wr).alloc _
          have hss : (wr.alloc (.cells #[.string (strOf s.lo.a), .bool s.lo.e, .string (strOf s.hi.a), .bool s.hi.e] 156)).heap.size = wr.heap.size + 1 := World.size_alloc _ _
          have s0 := cell_of_row _ _ 0 _ _ _ hBs
          have s1 := cell_of_row _ _ 1 _ _ _ hBs
          have s2 := cell_of_row _ _ 2 _ _ _ hBs
          have s3 := cell_of_row _ _ 3 _ _ _ hBs
          have HBS := Lib.hid hBs
          clear hBs
          go_upto_region 8 with fail
          generalize wr.alloc (.cells #[.string (strOf s.lo.a), .bool s.lo.e, .string (strOf s.hi.a), .bool s.hi.e] 156) = ws at *
          go_cut [10, 11] from 26 to 35 (fun v10 v11 wx => ∃ (b c : Nat) (wy : World), wy = wx ∧ v10 = .pointer (some ⟨b, 0, none⟩) ∧ v11 = .pointer (some ⟨c, 0, none⟩) ∧ b ≠ c ∧ ws.heap.size ≤ b ∧ ws.heap.size ≤ c ∧ wy.heap[b]? = some (.cells #[.string (strOf s.lo.a), .bool s.lo.e, .string (strOf s.hi.a), .bool s.hi.e] 156 (0, 0)) ∧ wy.heap[c]? = some (.cells #[.string (strOf s.lo.a), .bool s.lo.e, .string (strOf s.hi.a), .bool s.hi.e] 156 (0, 0)) ∧ Ext ws wy)
          case first =>
            have hb1 : ((ws.alloc (.cells #[.string (strOf s.lo.a), .bool s.lo.e, .string (strOf s.hi.a), .bool s.hi.e] 156)).alloc (.cells #[.string (strOf s.lo.a), .bool s.lo.e, .string (strOf s.hi.a), .bool s.hi.e] 156)).heap[wr.heap.size + 1]? = some (.cells #[.string (strOf s.lo.a), .bool s.lo.e, .string (strOf s.hi.a), .bool s.hi.e] 156 (0, 0)) := by
              have h := heap_alloc_new ws (.cells #[.string (strOf s.lo.a), .bool s.lo.e, .string (strOf s.hi.a), .bool s.hi.e] 156)
              rw [hss] at h
              rw [((Ext.refl _).alloc (.cells #[.string (strOf s.lo.a), .bool s.lo.e, .string (strOf s.hi.a), .bool s.hi.e] 156)).block _ (by rw [World.size_alloc, hss]; omega)]
              exact h
            have hb2 : ((ws.alloc (.cells #[.string (strOf s.lo.a), .bool s.lo.e, .string (strOf s.hi.a), .bool s.hi.e] 156)).alloc (.cells #[.string (strOf s.lo.a), .bool s.lo.e, .string (strOf s.hi.a), .bool s.hi.e] 156)).heap[wr.heap.size + 1 + 1]? = some (.cells #[.string (strOf s.lo.a), .bool s.lo.e, .string (strOf s.hi.a), .bool s.hi.e] 156 (0, 0)) := by
              have h := heap_alloc_new (ws.alloc (.cells #[.string (strOf s.lo.a), .bool s.lo.e, .string (strOf s.hi.a), .bool s.hi.e] 156)) (.cells #[.string (strOf s.lo.a), .bool s.lo.e, .string (strOf s.hi.a), .bool s.hi.e] 156)
              rw [World.size_alloc, hss] at h
              exact h
            have hxe : Ext ws ((ws.alloc (.cells #[.string (strOf s.lo.a), .bool s.lo.e, .string (strOf s.hi.a), .bool s.hi.e] 156)).alloc (.cells #[.string (strOf s.lo.a), .bool s.lo.e, .string (strOf s.hi.a), .bool s.hi.e] 156)).drew := (((Ext.refl ws).alloc _).alloc _).drew
            have hsz1 : ws.heap.size ≤ wr.heap.size + 1 := by omega
            have hsz2 : ws.heap.size ≤ wr.heap.size + 1 + 1 := by omega
            have H1B := Lib.hid hb1
            have H2B := Lib.hid hb2
            have HXE := Lib.hid hxe
            clear HST HBK hpre hown HBO HN3 HN H1 HBD hsp g0 g1 g2 g3 HNXT hb1 hb2 hxe HBS
            go_region
            · go_wp2_with fail
              go_meet
              exact ⟨wr.heap.size + 1, wr.heap.size + 1 + 1, _, rfl, rfl, rfl, by omega, hsz1, hsz2, H1B.out, H2B.out, HXE.out⟩
            · go_wp2_with fail
              go_meet
              exact ⟨wr.heap.size + 1 + 1, wr.heap.size + 1, _, rfl, rfl, rfl, by omega, hsz2, hsz1, H2B.out, H1B.out, HXE.out⟩
          case rest =>
            obtain ⟨b, c, wy, rfl, rfl, rfl, hbc, hbs, hcs, hBb, hBc, hys⟩ := hcut
            have HBb := Lib.hid hBb
            have HBc := Lib.hid hBc
            have hwo : wo.heap.size < ws.heap.size := by have := hxs.size; have := hy.size; have := (Array.getElem?_eq_some_iff.1 HBO.out).1; omega
            have HBo2 := Lib.hid (((hy.trans (hxs.trans hys)).block _ (Array.getElem?_eq_some_iff.1 HBO.out).1).trans HBO.out)
            have HBs2 := Lib.hid ((hys.block _ (Array.getElem?_eq_some_iff.1 HBS.out).1).trans HBS.out)
            clear hBb hBc s0 s1 s2 s3 g0 g1 g2 g3
            generalize hAq : Cut.lt out.lo s.hi = A at *
            generalize hBq : Cut.lt s.lo out.hi = Bq at *
            have hA := Lib.hid hAq
            have hB := Lib.hid hBq
            clear hAq hBq
            have b2 := cell_of_row _ _ 2 _ _ _ HBb.out
            have b3 := cell_of_row _ _ 3 _ _ _ HBb.out
            have o0 := cell_of_row _ _ 0 _ _ _ HBo2.out
            have o1 := cell_of_row _ _ 1 _ _ _ HBo2.out
            go_upto_if 40 with (go_at_call 174; refine (less_any _ out.lo s.hi).mono ?_; rw [hA.out]; rintro e y1 ⟨rfl, hy1⟩)
            have HB1 := Lib.hid ((hy1.block _ (Array.getElem?_eq_some_iff.1 HBb.out).1).trans HBb.out)
            have HC1 := Lib.hid ((hy1.block _ (Array.getElem?_eq_some_iff.1 HBc.out).1).trans HBc.out)
            have HO1 := Lib.hid ((hy1.block _ (Array.getElem?_eq_some_iff.1 HBo2.out).1).trans HBo2.out)
            have HS1 := Lib.hid ((hy1.block _ (Array.getElem?_eq_some_iff.1 HBs2.out).1).trans HBs2.out)
            have hx1 := hys.trans hy1
            have hsz1 : wr.heap.size < ws.heap.size := by omega
            clear b2 b3 o0 o1 hy1 HBb HBc HBo2 HBs2 hys
            go_cut [40] from 41 to 43 (fun _ wx => ∃ wz, wz = wx ∧ wz.heap[b]? = some (.cells #[.string (strOf s.lo.a), .bool s.lo.e, .string (strOf (if A then out.lo else s.hi).a), .bool (if A then out.lo else s.hi).e] 156 (0, 0)) ∧ wz.heap[c]? = some (.cells #[.string (strOf s.lo.a), .bool s.lo.e, .string (strOf s.hi.a), .bool s.hi.e] 156 (0, 0)) ∧ wz.heap[wo.heap.size]? = some (.cells #[.string (strOf out.lo.a), .bool out.lo.e, .string (strOf out.hi.a), .bool out.hi.e] 156 (0, 0)) ∧ wz.heap[wr.heap.size]? = some (.cells #[.string (strOf s.lo.a), .bool s.lo.e, .string (strOf s.hi.a), .bool s.hi.e] 156 (0, 0)) ∧ Ext ws wz)
            case first =>
              clear HST HBK hpre hown HBO HN3 HN H1 HBD hsp hA hB
              have o0 := cell_of_row _ _ 0 _ _ _ HO1.out
              have o1 := cell_of_row _ _ 1 _ _ _ HO1.out
              cases A
              · go_wp2_with fail
                go_meet
                exact ⟨_, rfl, HB1.out, HC1.out, HO1.out, HS1.out, hx1⟩
              · go_wp2_with (refine wpList_store_part 152 (.tmp 43) (.tmp 42) rfl rfl b 2 rfl #[.string (strOf out.lo.a), .bool out.lo.e] rfl _ 156 #[.string (strOf s.lo.a), .bool s.lo.e, .string (strOf out.lo.a), .bool out.lo.e] HB1.out (by simp) info96t (by simp [Value.oneCell']) rfl ?_)
                go_meet
                exact ⟨_, rfl, setRow_heap _ _ _ _ _ _ HB1.out, (setRow_other _ b c _ (Ne.symm hbc)).trans HC1.out, (setRow_other _ b wo.heap.size _ (by omega)).trans HO1.out, (setRow_other _ b wr.heap.size _ (by omega)).trans HS1.out, hx1.setRow hbs _⟩
            case rest =>
              obtain ⟨y3, rfl, hb3, hc3, ho3, hs3, hx3⟩ := hcut
              have HB3 := Lib.hid hb3
              have HC3 := Lib.hid hc3
              have HO3 := Lib.hid ho3
              have HS3 := Lib.hid hs3
              have c0 := cell_of_row _ _ 0 _ _ _ hc3
              have c1' := cell_of_row _ _ 1 _ _ _ hc3
              have o2' := cell_of_row _ _ 2 _ _ _ ho3
              have o3' := cell_of_row _ _ 3 _ _ _ ho3
              clear hb3 hc3 ho3 hs3 HB1 HC1 HO1 HS1 hx1
              go_upto_if 48 with (go_at_call 174; refine (less_any _ s.lo out.hi).mono ?_; rw [hB.out]; rintro e y4 ⟨rfl, hy4⟩)
              have HB4 := Lib.hid ((hy4.block _ (Array.getElem?_eq_some_iff.1 HB3.out).1).trans HB3.out)
              have HC4 := Lib.hid ((hy4.block _ (Array.getElem?_eq_some_iff.1 HC3.out).1).trans HC3.out)
              have HO4 := Lib.hid ((hy4.block _ (Array.getElem?_eq_some_iff.1 HO3.out).1).trans HO3.out)
              have HS4 := Lib.hid ((hy4.block _ (Array.getElem?_eq_some_iff.1 HS3.out).1).trans HS3.out)
              have hx4 := hx3.trans hy4
              clear c0 c1' o2' o3' hy4 HB3 HC3 HO3 HS3 hx3
              go_cut [48] from 49 to 51 (fun _ wx => ∃ wz, wz = wx ∧ wz.heap[b]? = some (.cells #[.string (strOf s.lo.a), .bool s.lo.e, .string (strOf (if A then out.lo else s.hi).a), .bool (if A then out.lo else s.hi).e] 156 (0, 0)) ∧ wz.heap[c]? = some (.cells #[.string (strOf (if Bq then out.hi else s.lo).a), .bool (if Bq then out.hi else s.lo).e, .string (strOf s.hi.a), .bool s.hi.e] 156 (0, 0)) ∧ wz.heap[wo.heap.size]? = some (.cells #[.string (strOf out.lo.a), .bool out.lo.e, .string (strOf out.hi.a), .bool out.hi.e] 156 (0, 0)) ∧ wz.heap[wr.heap.size]? = some (.cells #[.string (strOf s.lo.a), .bool s.lo.e, .string (strOf s.hi.a), .bool s.hi.e] 156 (0, 0)) ∧ Ext ws wz)
              case first =>
                clear HST HBK hpre hown HBO HN3 HN H1 HBD hsp hA hB
                have o2' := cell_of_row _ _ 2 _ _ _ HO4.out
                have o3' := cell_of_row _ _ 3 _ _ _ HO4.out
                cases Bq
                · go_wp2_with fail
                  go_meet
                  exact ⟨_, rfl, HB4.out, HC4.out, HO4.out, HS4.out, hx4⟩
                · go_wp2_with (refine wpList_store_part 152 (.tmp 51) (.tmp 50) rfl rfl c 0 rfl #[.string (strOf out.hi.a), .bool out.hi.e] rfl _ 156 #[.string (strOf out.hi.a), .bool out.hi.e, .string (strOf s.hi.a), .bool s.hi.e] HC4.out (by simp) info96t (by simp [Value.oneCell']) rfl ?_)
                  go_meet
                  exact ⟨_, rfl, (setRow_other _ c b _ hbc).trans HB4.out, setRow_heap _ _ _ _ _ _ HC4.out, (setRow_other _ c wo.heap.size _ (by omega)).trans HO4.out, (setRow_other _ c wr.heap.size _ (by omega)).trans HS4.out, hx4.setRow hcs _⟩
              case rest =>
                obtain ⟨y5, rfl, hb5, hc5, ho5, hs5, hx5⟩ := hcut
                have HB5 := Lib.hid hb5
                have HC5 := Lib.hid hc5
                have HS5 := Lib.hid hs5
                have HO5 := Lib.hid ho5
                have hWs : Ext W ws := hy.trans hxs
                have hx6 := hWs.trans hx5
                have hown5 := Lib.hid (own_laterB hown.out (hxs.trans hx5))
                clear hb5 hc5 hs5 ho5 HB4 HC4 HO4 HS4 hx4
                have o0 := cell_of_row _ _ 0 _ _ _ HO5.out
                have o1 := cell_of_row _ _ 1 _ _ _ HO5.out
                have q2 := cell_of_row _ _ 2 _ _ _ HS5.out
                have q3 := cell_of_row _ _ 3 _ _ _ HS5.out
                cases A
                · have hm1s : minus1 s out = [s] := by unfold minus1; rw [hA.out]; rfl
                  go_wp2_with fail
                  refine (less_any _ out.lo s.hi).mono ?_
                  rw [hA.out]
                  rintro e y6 ⟨rfl, hy6⟩
                  have HSY := Lib.hid ((hy6.block _ (Array.getElem?_eq_some_iff.1 HS5.out).1).trans HS5.out)
                  have r0 := cell_of_row _ _ 0 _ _ _ HSY.out
                  have r1 := cell_of_row _ _ 1 _ _ _ HSY.out
                  have r2 := cell_of_row _ _ 2 _ _ _ HSY.out
                  have r3 := cell_of_row _ _ 3 _ _ _ HSY.out
                  have hx7 := hx6.trans hy6
                  have ho7 := own_laterB hown5.out (hy6.alloc (.cells (spC s).toArray 156))
                  have hx8 := hx7.alloc (.cells (spC s).toArray 156)
                  have HRO := Lib.hid (spRow y6 s)
                  have hone := spC_one [s]
                  rw [List.flatMap_singleton] at hone
                  have HONE := Lib.hid hone
                  have HO7 := Lib.hid ho7
                  have HX8 := Lib.hid hx8
                  have hl1 : (minus1 s out).length = 1 := by rw [hm1s]; rfl
                  clear hone ho7 hx8
                  go_wp2_with (at_builtin; refine wpList_append_row 69 156 (.tmp 66) (.tmp 68) rfl W.heap.size _ 4 48 Tryz.underlying69 info101t rfl (by decide) rfl _ pre.length (pre.flatMap spC) rfl HO7.out 1 (spC s) HRO.out HONE.out (by omega) (by unfold maxLen; omega) HX8.out.size ?_; intro v7 w7 hown7 hgrow; have HO9 := Lib.hid hown7; have HG := Lib.hid hgrow; clear hown7 hgrow)
                  go_roundw
                  case rel =>
                    refine ⟨j + 1, pre ++ [s], hjl, by go_num, ?_, ?_, HX8.out.grown_none HG.out (own_base HO7.out)⟩
                    · show _ = _
                      rw [HNXT.out, hm1s]
                    · show World.ownsRow _ _ _ _ _ _ _
                      rw [List.length_append, List.length_singleton, List.flatMap_append, List.flatMap_singleton]
                      exact HO9.out
                  case measure => simp [intOf]; omega
                · cases Bq
                  · have hm1s : minus1 s out = [s] := by unfold minus1; rw [hA.out, hB.out]; rfl
                    have q0 := cell_of_row _ _ 0 _ _ _ HS5.out
                    have q1 := cell_of_row _ _ 1 _ _ _ HS5.out
                    go_wp2_with fail
                    refine (less_any _ out.lo s.hi).mono ?_
                    rw [hA.out]
                    rintro e y6' ⟨rfl, hy6'⟩
                    have o2' := hy6'.cell (cell_of_row _ _ 2 _ _ _ HO5.out)
                    have o3' := hy6'.cell (cell_of_row _ _ 3 _ _ _ HO5.out)
                    have q0 := hy6'.cell q0
                    have q1 := hy6'.cell q1
                    go_wp2_with fail
                    refine (less_any _ s.lo out.hi).mono ?_
                    rw [hB.out]
                    rintro e y6 ⟨rfl, hy6⟩
                    have hy6 := hy6'.trans hy6
                    clear o2' o3' q0 q1
                    have HSY := Lib.hid ((hy6.block _ (Array.getElem?_eq_some_iff.1 HS5.out).1).trans HS5.out)
                    have r0 := cell_of_row _ _ 0 _ _ _ HSY.out
                    have r1 := cell_of_row _ _ 1 _ _ _ HSY.out
                    have r2 := cell_of_row _ _ 2 _ _ _ HSY.out
                    have r3 := cell_of_row _ _ 3 _ _ _ HSY.out
                    have hx7 := hx6.trans hy6
                    have ho7 := own_laterB hown5.out (hy6.alloc (.cells (spC s).toArray 156))
                    have hx8 := hx7.alloc (.cells (spC s).toArray 156)
                    have HRO := Lib.hid (spRow y6 s)
                    have hone := spC_one [s]
                    rw [List.flatMap_singleton] at hone
                    have HONE := Lib.hid hone
                    have HO7 := Lib.hid ho7
                    have HX8 := Lib.hid hx8
                    have hl1 : (minus1 s out).length = 1 := by rw [hm1s]; rfl
                    clear hone ho7 hx8
                    go_wp2_with (at_builtin; refine wpList_append_row 69 156 (.tmp 66) (.tmp 68) rfl W.heap.size _ 4 48 Tryz.underlying69 info101t rfl (by decide) rfl _ pre.length (pre.flatMap spC) rfl HO7.out 1 (spC s) HRO.out HONE.out (by omega) (by unfold maxLen; omega) HX8.out.size ?_; intro v7 w7 hown7 hgrow; have HO9 := Lib.hid hown7; have HG := Lib.hid hgrow; clear hown7 hgrow)
                    go_roundw
                    case rel =>
                      refine ⟨j + 1, pre ++ [s], hjl, by go_num, ?_, ?_, HX8.out.grown_none HG.out (own_base HO7.out)⟩
                      · show _ = _
                        rw [HNXT.out, hm1s]
                      · show World.ownsRow _ _ _ _ _ _ _
                        rw [List.length_append, List.length_singleton, List.flatMap_append, List.flatMap_singleton]
                        exact HO9.out
                    case measure => simp [intOf]; omega
                  · have hm1s : minus1 s out = fullS [⟨s.lo, out.lo⟩, ⟨out.hi, s.hi⟩] := by unfold minus1; rw [hA.out, hB.out]; rfl
                    have HM1 := Lib.hid hm1s
                    clear hm1s
                    have q0 := cell_of_row _ _ 0 _ _ _ HS5.out
                    have q1 := cell_of_row _ _ 1 _ _ _ HS5.out
                    go_wp2_with fail
                    refine (less_any _ out.lo s.hi).mono ?_
                    rw [hA.out]
                    rintro e y6' ⟨rfl, hy6'⟩
                    have o2' := hy6'.cell (cell_of_row _ _ 2 _ _ _ HO5.out)
                    have o3' := hy6'.cell (cell_of_row _ _ 3 _ _ _ HO5.out)
                    have q0 := hy6'.cell q0
                    have q1 := hy6'.cell q1
                    go_wp2_with fail
                    refine (less_any _ s.lo out.hi).mono ?_
                    rw [hB.out]
                    rintro e y6 ⟨rfl, hy6⟩
                    have hy6 := hy6'.trans hy6
                    clear o2' o3' q0 q1
                    have HBY := Lib.hid ((hy6.block _ (Array.getElem?_eq_some_iff.1 HB5.out).1).trans HB5.out)
                    have HCY := Lib.hid ((hy6.block _ (Array.getElem?_eq_some_iff.1 HC5.out).1).trans HC5.out)
                    have b0 := cell_of_row _ _ 0 _ _ _ HBY.out
                    have b1 := cell_of_row _ _ 1 _ _ _ HBY.out
                    have b2 := cell_of_row _ _ 2 _ _ _ HBY.out
                    have b3 := cell_of_row _ _ 3 _ _ _ HBY.out
                    have c0 := cell_of_row _ _ 0 _ _ _ HCY.out
                    have c1' := cell_of_row _ _ 1 _ _ _ HCY.out
                    have c2' := cell_of_row _ _ 2 _ _ _ HCY.out
                    have c3 := cell_of_row _ _ 3 _ _ _ HCY.out
                    have hx7 := hx6.trans hy6
                    have hlit : SpR (y6.alloc (.cells #[.string (strOf s.lo.a), .bool s.lo.e, .string (strOf out.lo.a), .bool out.lo.e, .string (strOf out.hi.a), .bool out.hi.e, .string (strOf s.hi.a), .bool s.hi.e] 156)) (.slice (some ⟨y6.heap.size, 0, none⟩) 2 2) [⟨s.lo, out.lo⟩, ⟨out.hi, s.hi⟩] := sp_lit y6 [⟨s.lo, out.lo⟩, ⟨out.hi, s.hi⟩] (by show (2 : Nat) ≤ maxLen; decide)
                    have hx8 := hx7.alloc (.cells #[.string (strOf s.lo.a), .bool s.lo.e, .string (strOf out.lo.a), .bool out.lo.e, .string (strOf out.hi.a), .bool out.hi.e, .string (strOf s.hi.a), .bool s.hi.e] 156)
                    have HO8 := Lib.hid (own_laterB hown5.out (hy6.alloc (.cells #[.string (strOf s.lo.a), .bool s.lo.e, .string (strOf out.lo.a), .bool out.lo.e, .string (strOf out.hi.a), .bool out.hi.e, .string (strOf s.hi.a), .bool s.hi.e] 156)))
                    have HLIT := Lib.hid hlit
                    have hle0 : pre.length ≤ 1000000 := by omega
                    have HNB : Hid (u7.ownBlock ≠ some y6.heap.size) := by
                      show _ ≠ _
                      intro e
                      have h1 := (hown5.out.lt _ e).2
                      have h2 := hy6.size
                      omega
                    have hg7 : y6.heap.size < (y6.alloc (.cells #[.string (strOf s.lo.a), .bool s.lo.e, .string (strOf out.lo.a), .bool out.lo.e, .string (strOf out.hi.a), .bool out.hi.e, .string (strOf s.hi.a), .bool s.hi.e] 156)).heap.size := by rw [World.size_alloc]; omega
                    clear hlit hx7 hy6 HBY HCY
                    go_wp2_with fail
                    generalize y6.alloc (.cells #[.string (strOf s.lo.a), .bool s.lo.e, .string (strOf out.lo.a), .bool out.lo.e, .string (strOf out.hi.a), .bool out.hi.e, .string (strOf s.hi.a), .bool s.hi.e] 156) = y7 at *
                    generalize y6.heap.size = g7 at *
                    clear b0 b1 b2 b3 c0 c1' c2' c3
                    go_loopw [7, 13, 74] (fun st _ i wr => ∃ (q : Nat) (pre2 : List Sp), q ≤ 2 ∧ i = .int .i64 q ∧ pre2.length ≤ pre.length + q ∧ Hid (pre2 = pre ++ fullS (([⟨s.lo, out.lo⟩, ⟨out.hi, s.hi⟩] : List Sp).take q)) ∧ Hid (wr.ownsRow W.heap.size 156 4 st pre2.length (pre2.flatMap spC)) ∧ Hid (SpR wr (.slice (some ⟨g7, 0, none⟩) 2 2) [⟨s.lo, out.lo⟩, ⟨out.hi, s.hi⟩]) ∧ Hid (st.ownBlock ≠ some g7) ∧ g7 < wr.heap.size ∧ Ext W wr) (fun _ _ i _ => 2 - (intOf i).toNat)
                    case atStart => exact ⟨0, pre, Nat.zero_le _, rfl, Nat.le_refl _, (by show pre = pre ++ fullS []; exact (List.append_nil pre).symm), HO8.out, HLIT.out, HNB.out, hg7, hx8⟩
                    case round =>
                      obtain ⟨q, pre2, hq, rfl, hlp, hp2, ho2, hlt7, hnb, hg7w, hz⟩ := hrel
                      by_cases hq2 : q < 2
                      · have hI3 : decide ((q : Int) < 2) = true := decide_eq_true (by omega)
                        have qq : q < ([⟨s.lo, out.lo⟩, ⟨out.hi, s.hi⟩] : List Sp).length := hq2
                        obtain ⟨B7, o7, e7, z0, z1, z2, z3⟩ := SpR.at hlt7.out qq
                        cases e7
                        have hnx : fullS (([⟨s.lo, out.lo⟩, ⟨out.hi, s.hi⟩] : List Sp).take (q + 1)) = fullS (([⟨s.lo, out.lo⟩, ⟨out.hi, s.hi⟩] : List Sp).take q) ++ fullS [([⟨s.lo, out.lo⟩, ⟨out.hi, s.hi⟩] : List Sp)[q]] := by
                          unfold fullS
                          rw [List.take_succ_eq_append_getElem qq, List.filter_append]
                        have HNX := Lib.hid hnx
                        clear hnx
                        generalize ([⟨s.lo, out.lo⟩, ⟨out.hi, s.hi⟩] : List Sp)[q] = x at *
                        simp only [Nat.zero_add] at z0 z1 z2 z3
                        have hxx : Ext wr (wr.alloc (.cells #[.string (strOf x.lo.a), .bool x.lo.e, .string (strOf x.hi.a), .bool x.hi.e] 156)) := (Ext.refl wr).alloc _
                        have hBx := heap_alloc_new wr (.cells #[.string (strOf x.lo.a), .bool x.lo.e, .string (strOf x.hi.a), .bool x.hi.e] 156)
                        have x0' := cell_of_row _ _ 0 _ _ _ hBx
                        have x1' := cell_of_row _ _ 1 _ _ _ hBx
                        have x2' := cell_of_row _ _ 2 _ _ _ hBx
                        have x3' := cell_of_row _ _ 3 _ _ _ hBx
                        have HBX := Lib.hid hBx
                        clear hBx
                        obtain ⟨F, hF⟩ : ∃ F, F = Cut.lt x.lo x.hi := ⟨_, rfl⟩
                        have HF := Lib.hid hF
                        clear hF
                        go_wp2_with fail
                        generalize wr.alloc (.cells #[.string (strOf x.lo.a), .bool x.lo.e, .string (strOf x.hi.a), .bool x.hi.e] 156) = wx at *
                        refine (less_any _ x.lo x.hi).mono ?_
                        rw [← HF.out]
                        rintro e y8 ⟨rfl, hy8⟩
                        have hxy := hxx.trans hy8
                        clear z0 z1 z2 z3 x0' x1' x2' x3'
                        cases F
                        · have hf : fullS [x] = [] := by unfold fullS; simp [← HF.out]
                          have HFN := Lib.hid hf
                          have HO9 := Lib.hid (own_laterB ho2.out hxy)
                          have hzz := hz.trans hxy
                          have HL9 := Lib.hid (hlt7.out.ext hxy)
                          have hg9 := Nat.lt_of_lt_of_le hg7w hxy.size
                          clear hf hy8 hxx
                          go_wp2_with fail
                          go_roundw
                          case rel =>
                            refine ⟨q + 1, pre2, hq2, by go_num, by omega, ?_, HO9.out, HL9.out, hnb.out, hg9, hzz⟩
                            show _ = _
                            rw [HNX.out, HFN.out, List.append_nil]; exact hp2.out
                          case measure => simp [intOf]; omega
                        · have hf : fullS [x] = [x] := by unfold fullS; simp [← HF.out]
                          have HFN := Lib.hid hf
                          have HBX2 := Lib.hid ((hy8.block _ (Array.getElem?_eq_some_iff.1 HBX.out).1).trans HBX.out)
                          have r0 := cell_of_row _ _ 0 _ _ _ HBX2.out
                          have r1 := cell_of_row _ _ 1 _ _ _ HBX2.out
                          have r2 := cell_of_row _ _ 2 _ _ _ HBX2.out
                          have r3 := cell_of_row _ _ 3 _ _ _ HBX2.out
                          have ho9 := own_laterB ho2.out (hxy.alloc (.cells (spC x).toArray 156))
                          have hzz := hz.trans (hxy.alloc (.cells (spC x).toArray 156))
                          have HRO := Lib.hid (spRow y8 x)
                          have hone := spC_one [x]
                          rw [List.flatMap_singleton] at hone
                          have HONE := Lib.hid hone
                          have HO9 := Lib.hid ho9
                          have HZZ := Lib.hid hzz
                          have hbase := hzz.size
                          have HL9 := Lib.hid (hlt7.out.ext (hxy.alloc (.cells (spC x).toArray 156)))
                          have hg9 := Nat.lt_of_lt_of_le hg7w (hxy.alloc (.cells (spC x).toArray 156)).size
                          have HBASE := Lib.hid hbase
                          clear hf hone ho9 hzz hbase hy8 hxx
                          go_wp2_with (at_builtin; refine wpList_append_whose 69 156 (.tmp 83) (.tmp 85) rfl W.heap.size _ 4 48 Tryz.underlying69 info101t rfl (by decide) rfl _ pre2.length (pre2.flatMap spC) rfl HO9.out 1 (spC x) HRO.out HONE.out (by decide) (by omega) (by unfold maxLen; omega) HBASE.out ?_; intro v7 w7 hown7 hgrow hwho; have HO10 := Lib.hid hown7; have HG := Lib.hid hgrow; have HWHO := Lib.hid hwho; clear hown7 hgrow hwho)
                          go_roundw
                          case rel =>
                            refine ⟨q + 1, pre2 ++ [x], hq2, by go_num, by rw [List.length_append, List.length_singleton]; omega, ?_, ?_, ?_, ?_, ?_, ?_⟩
                            · show _ = _
                              rw [HNX.out, HFN.out, ← List.append_assoc, ← hp2.out]
                            · show World.ownsRow _ _ _ _ _ _ _
                              rw [List.length_append, List.length_singleton, List.flatMap_append, List.flatMap_singleton]
                              exact HO10.out
                            · show SpR _ _ _
                              exact row_kept HL9.out HG.out (fun B o k c e he => by cases e; exact hnb.out he.symm)
                            · show _ ≠ _
                              rcases HWHO.out with e | e
                              · rw [e]; exact hnb.out
                              · rw [e]; intro e2; exact (Nat.ne_of_gt hg9) (Option.some.inj e2)
                            · exact Nat.lt_of_lt_of_le hg9 HG.out.size
                            · exact HZZ.out.grown_none HG.out (own_base HO9.out)
                          case measure => simp [intOf]; omega
                      · obtain rfl : q = 2 := by omega
                        have hI3 : decide (((2 : Nat) : Int) < 2) = false := decide_eq_false (by omega)
                        have hpe : pre2 = pre ++ minus1 s out := by rw [HM1.out]; exact hp2.out
                        have HPE := Lib.hid hpe
                        have hfin := hz
                        clear hpe
                        go_wp2_with fail
                        go_roundw
                        case rel => exact ⟨j + 1, pre2, hjl, by go_num, (by show _ = _; rw [HNXT.out]; exact HPE.out), ho2.out, hfin⟩
                        case measure => simp [intOf]; omega
        · obtain rfl : j = n3 := by omega
          have hI2 : decide ((j : Int) < (j : Int)) = false := decide_eq_false (by omega)
          have hpe : pre = minusL l (m.take (k + 1)) := by
            rw [HST.out]
            have h := hpre.out
            rw [List.take_of_length_le (by rw [← HN3.out]; exact Nat.le_refl _)] at h
            exact h
          have hsr := Row.of_own hown.out
          have HSR : Hid (SpR wr u7 (minusL l (m.take (k + 1)))) := by rw [← hpe]; exact hsr
          have hfin := hx.trans (hxW.trans hy)
          clear hpe hsr
          go_wp2_with fail
          go_roundw
          case rel => exact ⟨k + 1, hlt, by go_num, HSR.out, hfin⟩
          case measure => simp [intOf]; omega
    · obtain rfl : k = n := by omega
      have hI : decide ((k : Int) < (k : Int)) = false := decide_eq_false (by omega)
      have HSR : Hid (SpR wr u0 (minusL l m)) := by
        have h := hsp.out
        rw [List.take_of_length_le (by rw [← HN.out]; exact Nat.le_refl _)] at h
        exact h
      go_wp2_with fail
      go_ret
      exact ⟨_, rfl, HSR.out, hx⟩
end Go.Proofs.YtlhbpflcffjhmaaGreat

namespace Go.Proofs.YtlhbpflcffjhmaaGreat

section
variable {α β : Type} [DecidableEq β] (f : α → β)
/-- Equal neighbours, one kept. -/
def compF (l : List α) : List α := compL (fun a b => decide (f a = f b)) l
variable {f}
theorem compF_nil : compF f ([] : List α) = [] := compL_nil _
theorem compF_one (x : α) : compF f [x] = [x] := compL_one _ x
theorem compF_cons2 (x y : α) (r : List α) : compF f (x :: y :: r) = if f x = f y then compF f (x :: r) else x :: compF f (y :: r) := by
  unfold compF
  rw [compL_cons2]
  by_cases h : f x = f y
  · rw [if_pos h, if_pos (decide_eq_true h)]
  · rw [if_neg h, if_neg (by simpa using h)]
theorem compF_snoc : ∀ (n : Nat) (m : List α), m.length = n → ∀ x y : α, compF f (m ++ [x, y]) = if f x = f y then compF f (m ++ [x]) else compF f (m ++ [x]) ++ [y]
  | _, [], _, x, y => by
    rw [List.nil_append, List.nil_append, compF_cons2, compF_one, compF_one]
    by_cases h : f x = f y
    · rw [if_pos h, if_pos h]
    · rw [if_neg h, if_neg h]; rfl
  | _, [a], _, x, y => by
    show compF f (a :: x :: [y]) = if f x = f y then compF f (a :: x :: []) else compF f (a :: x :: []) ++ [y]
    rw [compF_cons2, compF_cons2 a x []]
    by_cases hax : f a = f x
    · rw [if_pos hax, if_pos hax, compF_cons2, compF_one, compF_one, hax]
      by_cases h : f x = f y
      · rw [if_pos h, if_pos h]
      · rw [if_neg h, if_neg h]; rfl
    · rw [if_neg hax, if_neg hax, compF_cons2, compF_one, compF_one]
      by_cases h : f x = f y
      · rw [if_pos h, if_pos h]
      · rw [if_neg h, if_neg h]; rfl
  | n + 1, a :: b :: m, h, x, y => by
    show compF f (a :: b :: (m ++ [x, y])) = if f x = f y then compF f (a :: b :: (m ++ [x])) else compF f (a :: b :: (m ++ [x])) ++ [y]
    rw [compF_cons2, compF_cons2]
    have hlen : (a :: m).length = n := by simp at h ⊢; omega
    have hlen2 : (b :: m).length = n := by simp at h ⊢; omega
    by_cases hab : f a = f b
    · rw [if_pos hab, if_pos hab]
      exact compF_snoc n (a :: m) hlen x y
    · rw [if_neg hab, if_neg hab]
      have := compF_snoc n (b :: m) hlen2 x y
      rw [List.cons_append, List.cons_append] at this
      rw [this]
      by_cases h : f x = f y
      · rw [if_pos h, if_pos h]
      · rw [if_neg h, if_neg h]; rfl
/-- One more element read. -/
theorem compF_take {l : List α} {n : Nat} (h : n + 1 < l.length) : compF f (l.take (n + 2)) = if f l[n + 1] = f l[n] then compF f (l.take (n + 1)) else compF f (l.take (n + 1)) ++ [l[n + 1]] := by
  have e1 : l.take (n + 1) = l.take n ++ [l[n]] := by rw [List.take_succ_eq_append_getElem (by omega)]
  have e2 : l.take (n + 2) = l.take n ++ [l[n], l[n + 1]] := by
    rw [List.take_succ_eq_append_getElem h, e1, List.append_assoc]; rfl
  rw [e2, e1, compF_snoc _ _ rfl]
  by_cases hh : f l[n] = f l[n + 1]
  · rw [if_pos hh, if_pos hh.symm]
  · rw [if_neg hh, if_neg (fun e => hh e.symm)]
theorem compF_len : ∀ (n : Nat) (l : List α), l.length ≤ n → (compF f l).length ≤ l.length
  | _, [], _ => by rw [compF_nil]; exact Nat.le_refl _
  | _, [x], _ => by rw [compF_one]; exact Nat.le_refl _
  | n + 1, x :: y :: r, h => by
    rw [compF_cons2]
    split
    · have := compF_len n (x :: r) (by simp at h ⊢; omega)
      simp only [List.length_cons] at this ⊢; omega
    · have := compF_len n (y :: r) (by simp at h ⊢; omega)
      simp only [List.length_cons] at this ⊢; omega
variable (f) in
/-- i elements have been read, k are kept at the row's head; what has not been read stands. -/
structure CompInvF (l r : List α) (k i : Nat) : Prop where
  len : r.length = l.length
  pos : 1 ≤ k
  le : k + 1 ≤ i
  hi : i ≤ l.length
  tk : r.take k = compF f (l.take i)
  dr : r.drop (i - 1) = l.drop (i - 1)
theorem CompInvF.start {l : List α} {m : Nat} (h : m + 1 < l.length) (hc : compF f (l.take (m + 1)) = l.take (m + 1)) (e : f l[m + 1] = f l[m]) : CompInvF f l l (m + 1) (m + 2) := by
  refine ⟨rfl, by omega, by omega, by omega, ?_, rfl⟩
  rw [compF_take h, if_pos e, hc]
theorem CompInvF.at {l r : List α} {k i : Nat} (h : CompInvF f l r k i) (hi : i < l.length) : ∃ (h1 : i < r.length) (h2 : i - 1 < r.length), r[i] = l[i] ∧ r[i - 1] = l[i - 1]'(by omega) := by
  have hp := h.pos
  have hl := h.le
  have hn := h.len
  refine ⟨by omega, by omega, ?_, ?_⟩
  · have := congrArg (fun x => x[1]?) h.dr
    simp only [List.getElem?_drop] at this
    have e : i - 1 + 1 = i := by omega
    rw [e, List.getElem?_eq_getElem (by omega), List.getElem?_eq_getElem hi] at this
    exact Option.some.inj this
  · have := congrArg (fun x => x[0]?) h.dr
    simp only [List.getElem?_drop, Nat.add_zero] at this
    rw [List.getElem?_eq_getElem (by omega), List.getElem?_eq_getElem (by omega)] at this
    exact Option.some.inj this
theorem CompInvF.drop {l r : List α} {k i : Nat} (h : CompInvF f l r k i) : r.drop i = l.drop i := by
  have := congrArg (fun x => x.drop 1) h.dr
  have hl := h.le
  have hp := h.pos
  simp only [List.drop_drop] at this
  have e : i - 1 + 1 = i := by omega
  rw [e] at this
  exact this
theorem compF_read {l : List α} {i : Nat} (h1 : 1 ≤ i) (hi : i < l.length) : compF f (l.take (i + 1)) = if f l[i] = f l[i - 1] then compF f (l.take i) else compF f (l.take i) ++ [l[i]] := by
  obtain ⟨m, rfl⟩ : ∃ m, i = m + 1 := ⟨i - 1, by omega⟩
  exact compF_take hi
theorem CompInvF.same {l r : List α} {k i : Nat} (h : CompInvF f l r k i) (hi : i < l.length) (e : f l[i] = f l[i - 1]) : CompInvF f l r k (i + 1) := by
  have hp := h.pos
  have hl := h.le
  refine ⟨h.len, hp, by omega, hi, ?_, ?_⟩
  · rw [compF_read (by omega) hi, if_pos e]; exact h.tk
  · exact h.drop
theorem CompInvF.next {l r : List α} {k i : Nat} (h : CompInvF f l r k i) (hi : i < l.length) (e : f l[i] ≠ f l[i - 1]) : CompInvF f l (r.set k l[i]) (k + 1) (i + 1) := by
  have hp := h.pos
  have hl := h.le
  have hn := h.len
  refine ⟨by rw [List.length_set]; exact hn, by omega, by omega, hi, ?_, ?_⟩
  · rw [compF_read (by omega) hi, if_neg e, ← h.tk]
    have hk : k < r.length := by omega
    rw [List.take_succ_eq_append_getElem (by rw [List.length_set]; exact hk), List.getElem_set_self, List.take_set_of_le (Nat.le_refl k)]
  · show (r.set k l[i]).drop i = l.drop i
    rw [List.drop_set_of_lt (by omega)]
    exact h.drop
theorem CompInvF.done {l r : List α} {k : Nat} (h : CompInvF f l r k l.length) : r.take k = compF f l ∧ (compF f l).length = k := by
  have := h.tk
  rw [List.take_length] at this
  refine ⟨this, ?_⟩
  rw [← this, List.length_take]
  have := h.le; have := h.len
  omega
end
end Go.Proofs.YtlhbpflcffjhmaaGreat

namespace Go.Proofs.YtlhbpflcffjhmaaGreat
open Go.RowKit Go.Sort

theorem size101 : (Tryz.prog.info? 156).map (·.size) = some 4 := by kernel_rfl
theorem zero101 : ∀ w, (zeroValue 156).run Tryz.prog w = .ok (.agg #[.string ⟨#[]⟩, .bool false, .string ⟨#[]⟩, .bool false]) w := fun _ => by kernel_rfl
theorem grown_refl (w : World) (row : Option Nat) : w.grownBy w row := ⟨rfl, rfl, rfl, Nat.le_refl _, fun _ _ _ => rfl⟩
theorem sp_at {W : World} {g n cap : Nat} {l : List Sp} (h : Row W 4 (.slice (some ⟨g, 0, none⟩) n cap) n (l.flatMap spC)) {k : Nat} (hk : k < l.length) (hn : k < n) :
    W.cell? ⟨g, k * 4, none⟩ = some (.string (strOf l[k].lo.a)) ∧ W.cell? ⟨g, k * 4 + 1, none⟩ = some (.bool l[k].lo.e) ∧ W.cell? ⟨g, k * 4 + 2, none⟩ = some (.string (strOf l[k].hi.a)) ∧ W.cell? ⟨g, k * 4 + 3, none⟩ = some (.bool l[k].hi.e) := by
  have gg := fun j hj => flat_get spC 4 spC_len l k hk j hj
  have q := fun j u hj (e : (spC l[k])[j]? = some u) => Row.cellAt h ((gg j hj).trans e) (by omega)
  simp only [Nat.zero_add] at q
  exact ⟨q 0 _ (by decide) rfl, q 1 _ (by decide) rfl, q 2 _ (by decide) rfl, q 3 _ (by decide) rfl⟩

set_option maxRecDepth 100000 in
set_option maxHeartbeats 8000000 in
theorem deleteSp_any (w : World) (base : Nat) (v : Value) (l : List Sp) (ho : w.ownsRow base 156 4 v l.length (l.flatMap spC)) (hl : l.length ≤ 1000000) (G : Nat) (cb : Array Value) (p : Sp → Bool)
    (eg : ∀ args w, (callFunc G args).run Tryz.prog w = .ok (.enter G args) w)
    (hc : ∀ (W : World) (x : Sp), w.grownBy W v.ownBlock → x ∈ l → Calls Tryz.prog G (#[.agg #[.string (strOf x.lo.a), .bool x.lo.e, .string (strOf x.hi.a), .bool x.hi.e]] ++ cb) W fun e W' => e = .returned (.bool (p x)) ∧ Ext W W') :
    Calls Tryz.prog 172 #[v, .func (.func G) #[] cb] w fun e w' => ∃ v', e = .returned v' ∧ w'.ownsRow base 156 4 v' (l.filter fun x => !p x).length ((l.filter fun x => !p x).flatMap spC) ∧ w.grownBy w' v.ownBlock := by
  have hidx := idxSp_any w v l (Row.of_own ho) G cb p eg (fun W x hx hm => hc W x (grown_ext (grown_refl w _) hx) hm)
  obtain ⟨ix, hix⟩ : ∃ ix, ix = idxP p l := ⟨_, rfl⟩
  rw [← hix] at hidx
  cases hf : l.findIdx? p with
  | none =>
    have hix1 : ix = -1 := by rw [hix]; unfold idxP; rw [hf]
    subst hix1
    have hres := del_none hf
    have HR := Lib.hid hres
    have HO := Lib.hid ho
    have HI := Lib.hid hidx
    obtain ⟨a, cap, rfl, hc2, hm⟩ := Row.shape (Row.of_own ho)
    clear hix hres ho hidx hc hf eg
    generalize hnn : l.length = n at *
    have HNN := Lib.hid hnn
    clear hnn
    go_enter Tryz.func172, Tryz.ntmps172
    go_wp2_with (go_at_call 214; refine HI.out.mono ?_; rintro e w1 ⟨rfl, hx1⟩)
    go_ret
    refine ⟨_, rfl, ?_, grown_ext (grown_refl w _) hx1⟩
    rw [HR.out, HNN.out]
    exact own_ext HO.out hx1
  | some i =>
    obtain ⟨hi, hpi, hpre⟩ := idx_start hf
    have hix1 : ix = i := by rw [hix]; unfold idxP; rw [hf]
    subst hix1
    have hst := DelInv.start p hi hpre hpi
    rcases ho.2 with ⟨_, e0⟩ | ⟨g, cap, cur, rfl, hb, hg, hn, hm, hs, ht⟩
    · omega
    clear cur hg hs ht hb
    unfold maxLen at hm
    have hne : ((i : Int) == -1) = false := beq_eq_false_iff_ne.2 (by omega)
    have HO := Lib.hid ho
    have HI := Lib.hid hidx
    have HST := Lib.hid hst
    have HC := Lib.hid hc
    clear hidx hst hc hix hf hpre hpi ho
    generalize hN : l.length = n at *
    have HN := Lib.hid hN
    clear hN
    go_enter Tryz.func172, Tryz.ntmps172
    go_wp2_with (go_at_call 214; refine HI.out.mono ?_; rintro e w1 ⟨rfl, hx1⟩)
    go_loopw [5, 6] (fun ii jj wr => ∃ (k j : Nat) (r : List Sp), ii = .int .i64 k ∧ jj = .int .i64 j ∧ k + 1 ≤ j ∧ j ≤ n ∧ Hid (DelInv p l r k j) ∧ Hid (wr.ownsRow base 156 4 (.slice (some ⟨g, 0, none⟩) n cap) n (r.flatMap spC)) ∧ Hid (w.grownBy wr (some g))) (fun _ jj _ => n - (intOf jj).toNat)
    case atStart => exact ⟨i, i + 1, l, rfl, by go_num, Nat.le_refl _, by omega, HST, own_ext HO.out hx1, grown_ext (grown_refl w _) hx1⟩
    case round =>
      obtain ⟨k, j, r, rfl, rfl, hkj, hj, hinv, hown, hgr⟩ := hrel
      by_cases hlt : j < n
      · have hI : decide ((j : Int) < (n : Int)) = true := decide_eq_true (by omega)
        have hjl : j < l.length := by rw [HN.out]; exact hlt
        obtain ⟨r1, er⟩ := hinv.out.at hjl
        have hrl : r.length = n := by rw [hinv.out.len, HN.out]
        obtain ⟨f0, f1, f2, f3⟩ := sp_at (Row.of_own hown.out) r1 hlt
        rw [er] at f0 f1 f2 f3
        have hmem : l[j] ∈ l := List.getElem_mem hjl
        have hsk := fun h => hinv.out.skip hjl h
        have hke := fun h => hinv.out.keep hjl h
        have HSK := Lib.hid hsk
        have HKE := Lib.hid hke
        clear hsk hke er r1 hinv
        generalize l[j] = x at *
        have hcall := HC.out (wr.alloc (.cells #[.string (strOf x.lo.a), .bool x.lo.e, .string (strOf x.hi.a), .bool x.hi.e] 156)) x (grown_ext hgr.out ((Ext.refl wr).alloc _)) hmem
        obtain ⟨hxa, hX⟩ := boxes1 wr (.cells #[.string (strOf x.lo.a), .bool x.lo.e, .string (strOf x.hi.a), .bool x.hi.e] 156)
        have x0 := cell_of_row _ _ 0 _ _ _ hX
        have x1 := cell_of_row _ _ 1 _ _ _ hX
        have x2 := cell_of_row _ _ 2 _ _ _ hX
        have x3 := cell_of_row _ _ 3 _ _ _ hX
        have hown1 := Lib.hid (own_ext hown.out hxa)
        have hgr1 := Lib.hid (grown_ext hgr.out hxa)
        have HCALL := Lib.hid hcall
        clear hcall hX hmem
        cases hE : p x with
        | true =>
          have HE := Lib.hid hE
          have hinv2 := Lib.hid (HSK.out hE)
          clear hE HSK HKE
          go_wp2_with (go_at_fn G; refine HCALL.out.mono ?_; rw [HE.out]; rintro e w2 ⟨rfl, hx2⟩)
          go_roundw
          case rel => exact ⟨k, j + 1, r, rfl, by go_num, by omega, hlt, hinv2, own_ext hown1.out hx2, grown_ext hgr1.out hx2⟩
          case measure => simp [intOf]; omega
        | false =>
          have HE := Lib.hid hE
          have hinv2 := Lib.hid (HKE.out hE)
          clear hE HSK HKE
          have hkr : k < r.length := by omega
          have hkn : k < n := by omega
          go_upto_region 9 with (go_at_fn G; refine HCALL.out.mono ?_; rw [HE.out]; rintro e w2 ⟨rfl, hx2⟩)
          have hown2 := own_ext hown1.out hx2
          have hth := own_there hown2 k 4 (by omega)
          have hset3 := own_set spC spC_len hown2 k hkr x
          have y0 := hx2.cell x0
          have y1 := hx2.cell x1
          have y2 := hx2.cell x2
          have y3 := hx2.cell x3
          have hgr2 := Lib.hid (grown_ext hgr1.out hx2)
          obtain ⟨wz, hwz⟩ : ∃ wz, w2.setCells g (k * 4) (spC x) = wz := ⟨_, rfl⟩
          rw [hwz] at hset3
          have HWZ := Lib.hid hwz
          have HS3 := Lib.hid hset3.1
          have HG3 := Lib.hid hset3.2
          clear hwz hset3 hown2 hx2 x0 x1 x2 x3
          go_wp2_with (refine wpList_store_mid rfl 156 (.tmp 33) (.tmp 32) rfl g (k * 4) #[.string (strOf x.lo.a), .bool x.lo.e, .string (strOf x.hi.a), .bool x.hi.e] rfl rfl hth size101 (by simp [Value.oneCell']) ?_; rw [show w2.setCells g (k * 4) (#[.string (strOf x.lo.a), .bool x.lo.e, .string (strOf x.hi.a), .bool x.hi.e] : Array Value).toList = wz from HWZ.out])
          go_roundw
          case rel => exact ⟨k + 1, j + 1, r.set k x, by go_num, by go_num, by omega, hlt, hinv2, HS3.out, hgr2.out.trans HG3.out⟩
          case measure => simp [intOf]; omega
      · obtain rfl : j = n := by omega
        have hI : decide ((j : Int) < (j : Int)) = false := decide_eq_false (by omega)
        have hdone := hinv.out
        rw [← HN.out] at hdone
        obtain ⟨ht, hlen⟩ := hdone.done
        have hkn : k < j := by omega
        have hkc : ¬ cap = k := by omega
        have hkc2 : k ≤ cap := by omega
        have hcl := run_clear_tail hown.out 69 (.agg #[.string ⟨#[]⟩, .bool false, .string ⟨#[]⟩, .bool false]) rfl (by simp [Value.cells, Value.oneCell']) Tryz.underlying69 zero101 k (cap - k) hkn
        have hfin := own_clear_tail hown.out (Nat.le_of_lt hkn) (.agg #[.string ⟨#[]⟩, .bool false, .string ⟨#[]⟩, .bool false]) rfl
        have hres : Hid ((r.flatMap spC).take (k * 4) = (l.filter fun x => !p x).flatMap spC) := by show _ = _; rw [flat_take spC 4 spC_len, ht]
        have HL := Lib.hid hlen
        have HF := Lib.hid hfin
        generalize wr.setCells g (k * 4) (Builtin.zeroCells (Value.agg #[.string ⟨#[]⟩, .bool false, .string ⟨#[]⟩, .bool false]).cells (j - k)).toList = wz at *
        clear ht hlen hfin hinv hdone
        go_wp2_with fail
        go_ret
        refine ⟨_, rfl, ?_, hgr.out.trans HF.out.2⟩
        rw [HL.out, ← hres.out]
        exact HF.out.1
end Go.Proofs.YtlhbpflcffjhmaaGreat
