/- The stable sort at []api.Item: insertionSort laid; stableCmpFunc and SortStableFunc at forty elements at most. (Printed from one text for gaps and items.)
A row of the call's own, sorted: the sort's words (at structs) and the row's.
Splice: slices.SortStableFunc at gaps and at items in memory of the call's own.
A row of the call's own with one element replaced.
One cell of a row of the call's own is set. (Of any program.)
Splice: an item copied; the closure that tells the lesser of what is left.
Splice: the closure that tells the lesser of what is left.
Splice: the closure that tells the lesser of what is left: an item.
A region that draws its order and ends in a chain: what stands ahead by facts (K1), the chain's operations walked as they stand. -/
import Derived.Shelf.SlSortFuncK.ComposeK
import Derived.Shelf.SlSortCmp.SmallK
import Derived.Shelf.SlSortCmp.PivotK
import Derived.Sort.OwnSorted
import Derived.Deep.DeepCutAuto
import Derived.BigQuiet
import Derived.Test.YtaklnpjpndkccaaGreatPk5
import Derived.Test.YtaklnpjpndkccaaGreatPk1
import Derived.Test.YtaklnpjpndkccaaGreatPk3
namespace Go.Proofs
open Go.Shelf
def Tryz.insItem_ren : Go.Shelf.Ren := ⟨fun | 20 => 111 | n => n, fun | 22 => 31 | 24 => 49 | 25 => 112 | 3 => 3 | 4 => 4 | 0 => 0 | n => n, fun | n => n⟩
theorem Tryz.insItem : Go.Proofs.SlLaysF0.n20 Tryz.prog Tryz.insItem_ren := {
  mixed := by kernel_rfl
  f20 := ⟨Tryz.f111.name, by decide, Tryz.func111.trans (congrArg some (by kernel_rfl))⟩
  t0 := Tryz.underlying0
  a0 := Tryz.isAgg0
  z0 := Tryz.sizeOf0
  v0 := Tryz.zeroValue0
  t3 := Tryz.underlying3
  a3 := Tryz.isAgg3
  z3 := Tryz.sizeOf3
  v3 := Tryz.zeroValue3
  t4 := Tryz.underlying4
  a4 := Tryz.isAgg4
  z4 := Tryz.sizeOf4
  v4 := Tryz.zeroValue4
  t22 := Tryz.underlying31
  a22 := Tryz.isAgg31
  z22 := Tryz.sizeOf31
  v22 := Tryz.zeroValue31
  t25 := Tryz.underlying112
  a25 := Tryz.isAgg112
  z25 := Tryz.sizeOf112
  v25 := Tryz.zeroValue112 }
end Go.Proofs
namespace Go.Proofs.YtaklnpjpndkccaaGreat
open Go.RowKit Go.Sort
section
variable {α : Type} [Inhabited α] {enc : α → List Value} {kf : α → Int} {cf : α → α → Int} {g blk off N : Nat} {w : World}

theorem insItem_any (E : SoE Tryz.prog enc 4 kf cf g blk off N w) (cap : Nat) (A X S : List α) (hN : (A ++ X ++ S).length = N) (m : Nat) (os : Array Obj) (a b : Nat) (ha : a = A.length) (hb : b = A.length + X.length) :
    Calls Tryz.prog 111 #[.slice (some ⟨blk, off, none⟩) N cap, .int .i64 a, .int .i64 b, .func (.func g) #[] #[]] (sortWorldK enc 4 w blk off m (A ++ X ++ S).toArray os)
      fun e w' => e = .returned (.tuple #[]) ∧ Hid (∃ m' os' Z, StS kf X Z ∧ w' = sortWorldK enc 4 w blk off m' (A ++ Z ++ S).toArray os') := by
  have hs : (A ++ X ++ S).toArray.size = N := by simpa using hN
  have hl : A.length + X.length + S.length = N := by simpa [Nat.add_assoc] using hN
  have hC : CmpLays Tryz.prog g #[] enc 4 cf blk off (A ++ X ++ S).toArray.size (sortWorldK enc 4 w blk off m (A ++ X ++ S).toArray os) := fun m2 os2 dk hdk x y => by
    rw [sortWorldK_on enc 4 w blk off m m2 _ dk os os2 E.hblk hdk]
    exact E.hcmp _ _ dk (by omega) x y
  have h := AnyQ.insertionSortCmpFunc Tryz.insItem 4 (fun w => Tryz.isAgg49 w) (fun w => Tryz.sizeOf49 w) enc E.hk E.h1 cf g #[] blk off cap a b (A ++ X ++ S).toArray (sortWorldK enc 4 w blk off m (A ++ X ++ S).toArray os) E.eg hC (E.holds hs m os) (lt_sortWorldK enc 4 w blk off m _ os E.hblk) (by omega) (by omega) (by have := E.hsz; omega)
  rw [hs] at h
  refine h.mono ?_
  rintro e w' ⟨rfl, n, os', rfl⟩
  obtain ⟨Z, hZ, hZ2⟩ := ins_sts E.hcf A X S
  rw [ha, hb, hZ2, sortWorldK_on enc 4 w blk off m n _ _ os os' E.hblk (by simp [hZ.len])]
  exact ⟨rfl, _, _, Z, hZ, rfl⟩

set_option maxRecDepth 100000 in
set_option maxHeartbeats 4000000 in
theorem stableItem (E : SoE Tryz.prog enc 4 kf cf g blk off N w) (cap : Nat) (l : List α) (hN : l.length = N) (h40 : N ≤ 40) (m : Nat) (os : Array Obj) :
    Calls Tryz.prog 75 #[.slice (some ⟨blk, off, none⟩) N cap, .int .i64 N, .func (.func g) #[] #[]] (sortWorldK enc 4 w blk off m l.toArray os)
      fun e w' => e = .returned (.tuple #[]) ∧ Hid (∃ m' os' Z, StS kf l Z ∧ w' = sortWorldK enc 4 w blk off m' Z.toArray os') := by
  have CI : Hid (∀ (wr : World) (A X S : List α) (a b : Nat), (∃ m os, wr = sortWorldK enc 4 w blk off m (A ++ X ++ S).toArray os) → (A ++ X ++ S).length = N → a = A.length → b = A.length + X.length →
      Calls Tryz.prog 111 #[.slice (some ⟨blk, off, none⟩) N cap, .int .i64 a, .int .i64 b, .func (.func g) #[] #[]] wr
        fun e w' => e = .returned (.tuple #[]) ∧ Hid (∃ m' os' Z, StS kf X Z ∧ w' = sortWorldK enc 4 w blk off m' (A ++ Z ++ S).toArray os')) := fun wr A X S a b hw h1 h2 h3 => by
    obtain ⟨m, os, rfl⟩ := hw
    exact insItem_any E cap A X S h1 m os a b h2 h3
  have CS : Hid (∀ (wr : World) (X Y : List α) (mm b : Nat), (∃ m os, wr = sortWorldK enc 4 w blk off m (X ++ Y).toArray os) → (X ++ Y).length = N → X ≠ [] → Y ≠ [] → (X.Pairwise fun a b => kf a ≤ kf b) → (Y.Pairwise fun a b => kf a ≤ kf b) → mm = X.length → b = N →
      Calls Tryz.prog 112 #[.slice (some ⟨blk, off, none⟩) N cap, .int .i64 0, .int .i64 mm, .int .i64 b, .func (.func g) #[] #[]] wr
        fun e w' => e = .returned (.tuple #[]) ∧ Hid (∃ m' os' Z, StS kf (X ++ Y) Z ∧ w' = sortWorldK enc 4 w blk off m' Z.toArray os')) := fun wr X Y mm b hw h1 h2 h3 h4 h5 h6 h7 => by
    obtain ⟨m, os, rfl⟩ := hw
    have := symItem Tryz.stItem E cap _ [] X Y [] m os 0 mm b (Nat.le_refl _) h2 h3 (by simpa using h1) h4 h5 rfl (by simpa using h6) (by rw [h7, ← h1]; simp)
    simp only [List.nil_append, List.append_nil] at this
    exact this
  obtain ⟨w0, hw0⟩ : ∃ w0, w0 = sortWorldK enc 4 w blk off m l.toArray os := ⟨_, rfl⟩
  rw [← hw0]
  have HW0 := Lib.hid hw0
  clear hw0 E
  by_cases c1 : N < 20
  · have g1 : decide ((20 : Int) ≤ (N : Int)) = false := decide_eq_false (by omega)
    have g2 : decide ((20 : Int) < (N : Int)) = false := decide_eq_false (by omega)
    have C := Lib.hid (CI.out w0 [] l [] 0 N ⟨m, os, by rw [HW0.out]; simp⟩ (by simpa using hN) rfl (by simp [hN]))
    have e0 : ((0 : Nat) : Int) = 0 := rfl
    rw [e0] at C
    clear hN HW0 CI CS e0
    go_enter Tryz.func75, Tryz.ntmps75
    go_wp2_with fail
    refine wp_loop_rounds 1 ?_
    rw [rounds_succ]
    go_wp2_with ((with_reducible refine C.out.mono ?_); rintro e w5 ⟨rfl, h5⟩)
    refine wp_loop_rounds 1 ?_
    rw [rounds_succ]
    go_wp2_with fail
    go_end0
    refine ⟨rfl, ?_⟩
    obtain ⟨m', os', Z, hZ, e5⟩ := h5.out
    exact ⟨m', os', Z, hZ, by simpa using e5⟩
  · by_cases c2 : N = 20
    · subst c2
      have C := Lib.hid (CI.out w0 [] l [] 0 20 ⟨m, os, by rw [HW0.out]; simp⟩ (by simpa using hN) rfl (by simp [hN]))
      have C2 : Hid (∀ wr, (∃ m' os' Z, StS kf l Z ∧ wr = sortWorldK enc 4 w blk off m' ([] ++ Z ++ []).toArray os') → Calls Tryz.prog 111 #[.slice (some ⟨blk, off, none⟩) 20 cap, .int .i64 20, .int .i64 20, .func (.func g) #[] #[]] wr
            fun e w' => e = .returned (.tuple #[]) ∧ Hid (∃ m' os' Z, StS kf l Z ∧ w' = sortWorldK enc 4 w blk off m' Z.toArray os')) := fun wr hw => by
          obtain ⟨m', os', Z, hZ, hw⟩ := hw
          have hz := hZ.len
          refine (CI.out wr Z [] [] 20 20 ⟨m', os', by rw [hw]; simp⟩ (by simp; omega) (by omega) (by simp; omega)).mono ?_
          rintro e w' ⟨rfl, h⟩
          obtain ⟨m2, os2, Z2, hZ2, rfl⟩ := h.out
          have hz2 : Z2 = [] := List.length_eq_zero_iff.1 hZ2.len
          exact ⟨rfl, m2, os2, Z, hZ, by simp [hz2]⟩
      have e0 : ((0 : Nat) : Int) = 0 := rfl
      have e20 : ((20 : Nat) : Int) = 20 := rfl
      rw [e0, e20] at C
      rw [e20]
      clear hN HW0 CI CS e0 e20 h40 c1
      go_enter Tryz.func75, Tryz.ntmps75
      go_wp2_with fail
      refine wp_loop_rounds 2 ?_
      rw [rounds_succ]
      go_wp2_with ((with_reducible refine C.out.mono ?_); rintro e w5 ⟨rfl, h5⟩)
      rw [rounds_succ]
      go_wp2_with ((with_reducible refine (C2.out _ h5.out).mono ?_); rintro e w6 ⟨rfl, h6⟩)
      refine wp_loop_rounds 1 ?_
      rw [rounds_succ]
      go_wp2_with fail
      go_end0
      exact ⟨rfl, h6⟩
    · by_cases c3 : N = 40
      · subst c3
        obtain ⟨X, Y, hl, hX⟩ : ∃ X Y, l = X ++ Y ∧ X.length = 20 := ⟨l.take 20, l.drop 20, (List.take_append_drop _ _).symm, by rw [List.length_take]; omega⟩
        have hY : Y.length = 20 := by rw [hl, List.length_append] at hN; omega
        have C := Lib.hid (CI.out w0 [] X Y 0 20 ⟨m, os, by rw [HW0.out, hl]; simp⟩ (by rw [hl] at hN; simpa using hN) rfl (by simp [hX]))
        have C2 : Hid (∀ wr, (∃ m' os' Z, StS kf X Z ∧ wr = sortWorldK enc 4 w blk off m' ([] ++ Z ++ Y).toArray os') → Calls Tryz.prog 111 #[.slice (some ⟨blk, off, none⟩) 40 cap, .int .i64 20, .int .i64 40, .func (.func g) #[] #[]] wr
            fun e w' => e = .returned (.tuple #[]) ∧ Hid (∃ m' os' Z Z2, StS kf X Z ∧ StS kf Y Z2 ∧ w' = sortWorldK enc 4 w blk off m' (Z ++ Z2).toArray os')) := fun wr hw => by
          obtain ⟨m', os', Z, hZ, hw⟩ := hw
          have hz := hZ.len
          refine (CI.out wr Z Y [] 20 40 ⟨m', os', by rw [hw]; simp⟩ (by simp; omega) (by omega) (by omega)).mono ?_
          rintro e w' ⟨rfl, h⟩
          obtain ⟨m2, os2, Z2, hZ2, rfl⟩ := h.out
          exact ⟨rfl, m2, os2, Z, Z2, hZ, hZ2, by simp⟩
        have C3 : Hid (∀ wr, (∃ m' os' Z Z2, StS kf X Z ∧ StS kf Y Z2 ∧ wr = sortWorldK enc 4 w blk off m' (Z ++ Z2).toArray os') → Calls Tryz.prog 111 #[.slice (some ⟨blk, off, none⟩) 40 cap, .int .i64 40, .int .i64 40, .func (.func g) #[] #[]] wr
            fun e w' => e = .returned (.tuple #[]) ∧ Hid (∃ m' os' Z Z2, StS kf X Z ∧ StS kf Y Z2 ∧ w' = sortWorldK enc 4 w blk off m' (Z ++ Z2).toArray os')) := fun wr hw => by
          obtain ⟨m', os', Z, Z2, hZ, hZ2, hw⟩ := hw
          have hz := hZ.len
          have hz2 := hZ2.len
          refine (CI.out wr (Z ++ Z2) [] [] 40 40 ⟨m', os', by rw [hw]; simp⟩ (by simp; omega) (by simp; omega) (by simp; omega)).mono ?_
          rintro e w' ⟨rfl, h⟩
          obtain ⟨m2, os2, Z3, hZ3, rfl⟩ := h.out
          have hz3 : Z3 = [] := List.length_eq_zero_iff.1 hZ3.len
          exact ⟨rfl, m2, os2, Z, Z2, hZ, hZ2, by simp [hz3]⟩
        have C4 : Hid (∀ wr, (∃ m' os' Z Z2, StS kf X Z ∧ StS kf Y Z2 ∧ wr = sortWorldK enc 4 w blk off m' (Z ++ Z2).toArray os') → Calls Tryz.prog 112 #[.slice (some ⟨blk, off, none⟩) 40 cap, .int .i64 0, .int .i64 20, .int .i64 40, .func (.func g) #[] #[]] wr
            fun e w' => e = .returned (.tuple #[]) ∧ Hid (∃ m' os' Z, StS kf l Z ∧ w' = sortWorldK enc 4 w blk off m' Z.toArray os')) := fun wr hw => by
          obtain ⟨m', os', Z, Z2, hZ, hZ2, hw⟩ := hw
          have hz := hZ.len
          have hz2 := hZ2.len
          refine (CS.out wr Z Z2 20 40 ⟨m', os', hw⟩ (by simp; omega) (fun h => by rw [h] at hz; simp at hz; omega) (fun h => by rw [h] at hz2; simp at hz2; omega) hZ.2.1 hZ2.2.1 (by omega) rfl).mono ?_
          rintro e w' ⟨rfl, h⟩
          obtain ⟨m2, os2, Z3, hZ3, rfl⟩ := h.out
          refine ⟨rfl, m2, os2, Z3, ?_, rfl⟩
          rw [hl]
          exact hZ.app hZ2 hZ3
        have e0 : ((0 : Nat) : Int) = 0 := rfl
        have e20 : ((20 : Nat) : Int) = 20 := rfl
        have e40 : ((40 : Nat) : Int) = 40 := rfl
        rw [e0, e20] at C
        rw [e40]
        clear hN HW0 CI CS e0 e20 e40 hl hX hY h40 c1 c2
        go_enter Tryz.func75, Tryz.ntmps75
        go_wp2_with fail
        refine wp_loop_rounds 3 ?_
        rw [rounds_succ]
        go_wp2_with ((with_reducible refine C.out.mono ?_); rintro e w5 ⟨rfl, h5⟩)
        rw [rounds_succ]
        go_wp2_with ((with_reducible refine (C2.out _ h5.out).mono ?_); rintro e w6 ⟨rfl, h6⟩)
        rw [rounds_succ]
        go_wp2_with ((with_reducible refine (C3.out _ h6.out).mono ?_); rintro e w7 ⟨rfl, h7⟩)
        clear C C2 C3
        refine wp_loop_rounds 2 ?_
        rw [rounds_succ]
        go_wp2_with fail
        refine wp_loop_rounds 2 ?_
        rw [rounds_succ]
        go_wp2_with ((with_reducible refine (C4.out _ h7.out).mono ?_); rintro e w8 ⟨rfl, h8⟩)
        rw [rounds_succ]
        go_wp2_with fail
        rw [rounds_succ]
        go_wp2_with fail
        go_end0
        exact ⟨rfl, h8⟩
      · have g1 : decide ((20 : Int) ≤ (N : Int)) = true := decide_eq_true (by omega)
        have g2 : decide ((20 : Int) < (N : Int)) = true := decide_eq_true (by omega)
        have g3 : decide ((40 : Int) ≤ (N : Int)) = false := decide_eq_false (by omega)
        have g4 : decide ((40 : Int) < (N : Int)) = false := decide_eq_false (by omega)
        obtain ⟨X, Y, hl, hX⟩ : ∃ X Y, l = X ++ Y ∧ X.length = 20 := ⟨l.take 20, l.drop 20, (List.take_append_drop _ _).symm, by rw [List.length_take]; omega⟩
        have hY : Y.length = N - 20 := by rw [hl, List.length_append] at hN; omega
        have C := Lib.hid (CI.out w0 [] X Y 0 20 ⟨m, os, by rw [HW0.out, hl]; simp⟩ (by rw [hl] at hN; simpa using hN) rfl (by simp [hX]))
        have C2 : Hid (∀ wr, (∃ m' os' Z, StS kf X Z ∧ wr = sortWorldK enc 4 w blk off m' ([] ++ Z ++ Y).toArray os') → Calls Tryz.prog 111 #[.slice (some ⟨blk, off, none⟩) N cap, .int .i64 20, .int .i64 N, .func (.func g) #[] #[]] wr
            fun e w' => e = .returned (.tuple #[]) ∧ Hid (∃ m' os' Z Z2, StS kf X Z ∧ StS kf Y Z2 ∧ w' = sortWorldK enc 4 w blk off m' (Z ++ Z2).toArray os')) := fun wr hw => by
          obtain ⟨m', os', Z, hZ, hw⟩ := hw
          have hz := hZ.len
          refine (CI.out wr Z Y [] 20 N ⟨m', os', by rw [hw]; simp⟩ (by simp; omega) (by omega) (by omega)).mono ?_
          rintro e w' ⟨rfl, h⟩
          obtain ⟨m2, os2, Z2, hZ2, rfl⟩ := h.out
          exact ⟨rfl, m2, os2, Z, Z2, hZ, hZ2, by simp⟩
        have C3 : Hid (∀ wr, (∃ m' os' Z Z2, StS kf X Z ∧ StS kf Y Z2 ∧ wr = sortWorldK enc 4 w blk off m' (Z ++ Z2).toArray os') → Calls Tryz.prog 112 #[.slice (some ⟨blk, off, none⟩) N cap, .int .i64 0, .int .i64 20, .int .i64 N, .func (.func g) #[] #[]] wr
            fun e w' => e = .returned (.tuple #[]) ∧ Hid (∃ m' os' Z, StS kf l Z ∧ w' = sortWorldK enc 4 w blk off m' Z.toArray os')) := fun wr hw => by
          obtain ⟨m', os', Z, Z2, hZ, hZ2, hw⟩ := hw
          have hz := hZ.len
          have hz2 := hZ2.len
          refine (CS.out wr Z Z2 20 N ⟨m', os', hw⟩ (by simp; omega) (fun h => by rw [h] at hz; simp at hz; omega) (fun h => by rw [h] at hz2; simp at hz2; omega) hZ.2.1 hZ2.2.1 (by omega) rfl).mono ?_
          rintro e w' ⟨rfl, h⟩
          obtain ⟨m2, os2, Z3, hZ3, rfl⟩ := h.out
          refine ⟨rfl, m2, os2, Z3, ?_, rfl⟩
          rw [hl]
          exact hZ.app hZ2 hZ3
        have e0 : ((0 : Nat) : Int) = 0 := rfl
        have e20 : ((20 : Nat) : Int) = 20 := rfl
        rw [e0, e20] at C
        clear hN HW0 CI CS e0 e20 hl hX hY
        go_enter Tryz.func75, Tryz.ntmps75
        go_wp2_with fail
        refine wp_loop_rounds 2 ?_
        rw [rounds_succ]
        go_wp2_with (first | ((with_reducible refine C.out.mono ?_); rintro e w5 ⟨rfl, h5⟩) | ((with_reducible refine (C2.out _ h5.out).mono ?_); rintro e w6 ⟨rfl, h6⟩))
        rw [rounds_succ]
        go_wp2_with ((with_reducible refine (C2.out _ h5.out).mono ?_); rintro e w6 ⟨rfl, h6⟩)
        clear C C2
        refine wp_loop_rounds 2 ?_
        rw [rounds_succ]
        go_wp2_with fail
        refine wp_loop_rounds 1 ?_
        rw [rounds_succ]
        go_wp2_with ((with_reducible refine (C3.out _ h6.out).mono ?_); rintro e w7 ⟨rfl, h7⟩)
        rw [rounds_succ]
        go_wp2_with fail
        go_end0
        exact ⟨rfl, h7⟩
end
end Go.Proofs.YtaklnpjpndkccaaGreat

namespace Go.Proofs.YtaklnpjpndkccaaGreat
open Go.RowKit Go.Sort

theorem flatK_eq {α : Type} [Inhabited α] (enc : α → List Value) (k : Nat) (hk0 : 0 < k) (hk : ∀ x, (enc x).length = k) (l : List α) : flatK enc k l.toArray = (l.flatMap enc).toArray := by
  have hl := flat_len enc k hk l
  apply Array.ext
  · simp only [size_flatK, List.size_toArray, hl]
  · intro t h1 h2
    have h1' : t < l.length * k := by simpa using h1
    have hd : t / k < l.length := by rw [Nat.div_lt_iff_lt_mul hk0]; exact h1'
    have hm : t % k < k := Nat.mod_lt _ hk0
    have hg := flat_get enc k hk l (t / k) hd (t % k) hm
    have e : t / k * k + t % k = t := by rw [Nat.mul_comm]; exact Nat.div_add_mod t k
    rw [e] at hg
    have hf := get_flatK enc k l.toArray t (by simpa using h1')
    rw [getElem!_pos _ t h1] at hf
    rw [hf]
    have hx : (l.toArray)[t / k]! = l[t / k] := by rw [getElem!_pos _ _ (by simpa using hd)]; simp
    rw [hx]
    have h2' : t < (l.flatMap enc).length := by rw [hl]; exact h1'
    rw [List.getElem?_eq_getElem h2', List.getElem?_eq_getElem (by rw [hk]; exact hm)] at hg
    rw [getElem!_pos _ _ (by rw [hk]; exact hm)]
    have := Option.some.inj hg
    simp only [List.getElem_toArray]
    exact this.symm

theorem own_holds {w : World} {base g n cap size : Nat} {e : TypeId} {xs : List Value} (h : w.ownsRow base e size (.slice (some ⟨g, 0, none⟩) n cap) n xs) :
    ∃ cur, w.heap[g]? = some (.cells cur e (0, 0)) ∧ base ≤ g ∧ n ≤ cap ∧ cap ≤ maxLen ∧ cur.size = cap * size ∧ g < w.heap.size ∧ Holds id w g 0 xs.toArray := by
  obtain ⟨hl, h | ⟨g', cap', cur, e0, hb, hg, hn, hm, hs, ht⟩⟩ := h
  · cases h.1
  · injection e0 with e1 _ e3
    injection e1 with e1
    injection e1 with e1
    subst e1; subst e3
    refine ⟨cur, hg, hb, hn, hm, hs, (Array.getElem?_eq_some_iff.1 hg).1, fun j hj => ?_⟩
    have hj' : j < xs.length := by simpa using hj
    refine ⟨?_, by simp [World.frozen?, hg]⟩
    have e2 : (cur.toList.take (n * size))[j]? = xs[j]? := by rw [ht]
    rw [List.getElem?_take, if_pos (by omega), Array.getElem?_toList, List.getElem?_eq_getElem hj'] at e2
    simp only [World.cell?, hg, Nat.zero_add]
    simp only [Option.isSome_none, Bool.false_eq_true, if_false]
    rw [e2]
    simp [getElem!_pos, hj']

theorem grownBy_row {w : World} {g n : Nat} {os : Array Obj} (d : Array Value) : w.grownBy (grow (putRow id (Sort.ahead w n) g 0 d) os) (some g) := by
  refine ⟨rfl, rfl, rfl, by simp, fun k hk hne => ?_⟩
  rw [heap_grow_old _ _ (by simpa using hk)]
  have : g ≠ k := fun e => hne (by rw [e])
  simp [putRow, mapBlock, Sort.ahead, Array.getElem?_modify, this]

theorem take_put (cur : Array Value) (ts : List Value) (h : ts.length ≤ cur.size) : (putCells id 0 ts.toArray cur).toList.take ts.length = ts := by
  apply List.ext_getElem?
  intro j
  by_cases hj : j < ts.length
  · rw [List.getElem?_take_of_lt hj, Array.getElem?_toList]
    simp [putCells, hj, show j < cur.size by omega]
  · rw [List.getElem?_take_eq_none (by omega), List.getElem?_eq_none (by omega)]

theorem own_put {w : World} {base g n cap size m : Nat} {e : TypeId} {os : Array Obj} {xs ys : List Value} (h : w.ownsRow base e size (.slice (some ⟨g, 0, none⟩) n cap) n xs) (hy : ys.length = xs.length) :
    (grow (putRow id (Sort.ahead w m) g 0 ys.toArray) os).ownsRow base e size (.slice (some ⟨g, 0, none⟩) n cap) n ys := by
  have hl := h.1
  obtain ⟨cur, hg, hb, hn, hm, hs, hlt, _⟩ := own_holds h
  refine ⟨by omega, .inr ⟨g, cap, putCells id 0 ys.toArray cur, rfl, hb, ?_, hn, hm, by simp [putCells, hs], ?_⟩⟩
  · rw [heap_grow_old _ _ (by simpa using hlt)]
    simp [putRow, mapBlock, Sort.ahead, Array.getElem?_modify, hg, onCells]
  · rw [← hl, ← hy]
    have : n * size ≤ cap * size := Nat.mul_le_mul_right _ hn
    exact take_put cur ys (by omega)

/-- The sort, over any two structs' order: what stands behind it. -/
theorem own_sorted {α : Type} [Inhabited α] {w : World} {base g n cap k m : Nat} {e : TypeId} {os : Array Obj} (enc : α → List Value) (hk0 : 0 < k) (hk : ∀ x, (enc x).length = k) {l l' : List α}
    (h : w.ownsRow base e k (.slice (some ⟨g, 0, none⟩) n cap) n (l.flatMap enc)) (hll : l'.length = l.length) :
    (sortWorldK enc k w g 0 m l'.toArray os).ownsRow base e k (.slice (some ⟨g, 0, none⟩) n cap) n (l'.flatMap enc) ∧ w.grownBy (sortWorldK enc k w g 0 m l'.toArray os) (some g) := by
  unfold sortWorldK putRowK
  rw [flatK_eq enc k hk0 hk]
  exact ⟨own_put h (by rw [flat_len enc k hk, flat_len enc k hk, hll]), grownBy_row _⟩
theorem own_holdsK {α : Type} [Inhabited α] {w : World} {base g n cap k : Nat} {e : TypeId} (enc : α → List Value) (hk0 : 0 < k) (hk : ∀ x, (enc x).length = k) {l : List α}
    (h : w.ownsRow base e k (.slice (some ⟨g, 0, none⟩) n cap) n (l.flatMap enc)) : HoldsK enc k w g 0 l.toArray := by
  unfold HoldsK
  rw [flatK_eq enc k hk0 hk]
  obtain ⟨_, _, _, _, _, _, _, hH⟩ := own_holds h
  exact hH
/-- A list sorted by an order, in the sort's words and in mine. -/
theorem sorted_list {α : Type} [Inhabited α] {cf : α → α → Int} {l : List α} {d' : Array α} (hp : PermIn 0 l.toArray.size l.toArray d') (hs : SortedIn (ltOf cf) 0 l.toArray.size d') (hanti : ∀ a b, cf b a = - cf a b) :
    d'.toList.Perm l ∧ d'.toList.Pairwise fun a b => cf a b ≤ 0 := by
  have hsz : d'.size = l.length := by simpa using hp.1
  have h1 := hp.2.2
  have e1 : d'.extract 0 l.toArray.size = d' := by rw [List.size_toArray, ← hsz, Array.extract_size]
  have e2 : l.toArray.extract 0 l.toArray.size = l.toArray := by rw [Array.extract_size]
  rw [e1, e2] at h1
  refine ⟨h1, List.pairwise_iff_getElem.2 fun i j hi hj hij => ?_⟩
  have hj' : j < d'.size := by simpa using hj
  have hi' : i < d'.size := by simpa using hi
  have h2 := hs i j (Nat.zero_le _) hij (by simp; omega)
  rw [getElem!_pos d' j hj', getElem!_pos d' i hi'] at h2
  unfold ltOf at h2
  have h3 := of_decide_eq_false h2
  have h4 := hanti d'[i] d'[j]
  simp only [Array.getElem_toList]
  omega
end Go.Proofs.YtaklnpjpndkccaaGreat

namespace Go.Proofs.YtaklnpjpndkccaaGreat
open Go.RowKit Go.Sort

theorem ordN_lt (a b : Int) : ordN a b < 0 ↔ a < b := by
  unfold ordN
  split
  · simp_all
  · split <;> simp_all
set_option maxHeartbeats 4000000 in
theorem itemorder_any (w : World) (n t n2 t2 : Int) (k k2 : ByteArray) (a a2 : Option Addr) (ln c ln2 c2 : Nat) :
    Calls Tryz.prog 53 #[.agg #[.int .u64 n, .int .u64 t, .string k, .slice a ln c], .agg #[.int .u64 n2, .int .u64 t2, .string k2, .slice a2 ln2 c2]] w fun e w' => e = .returned (.int .i64 (ordN n n2)) ∧ Grew w w' := by
  obtain ⟨hx, hb, hc⟩ := boxes2 w (.cells #[.int .u64 n, .int .u64 t, .string k, .slice a ln c] 49) (.cells #[.int .u64 n2, .int .u64 t2, .string k2, .slice a2 ln2 c2] 49)
  have b0 := cell_of_row _ _ 0 _ _ _ hb
  have c0 := cell_of_row _ _ 0 _ _ _ hc
  clear hx hb hc
  go_enter Tryz.func53, Tryz.ntmps53
  go_wp2_with (go_at_call 50; (with_reducible refine (scompare_any _ n n2).mono ?_); rintro e w5 ⟨rfl, rfl⟩)
  go_ret
  exact ⟨rfl, ((Grew.refl w).alloc _).alloc _⟩

theorem entGap : ∀ args w, (callFunc 49 args).run Tryz.prog w = .ok (.enter 49 args) w := enters_of Tryz.func49 (by kernel_rfl) rfl
set_option maxRecDepth 100000 in
set_option maxHeartbeats 4000000 in
theorem insnilGap (g : Nat) (w : World) : Calls Tryz.prog 109 #[.slice none 0 0, .int .i64 0, .int .i64 0, .func (.func g) #[] #[]] w fun e w' => e = .returned (.tuple #[]) ∧ w' = w := by
  go_enter Tryz.func109, Tryz.ntmps109
  go_wp2_with fail
  refine wp_loop_rounds 1 ?_
  rw [rounds_succ]
  go_wp2_with fail
  go_end0
  exact ⟨rfl, rfl⟩
set_option maxRecDepth 100000 in
set_option maxHeartbeats 4000000 in
theorem stabnilGap (g : Nat) (w : World) : Calls Tryz.prog 74 #[.slice none 0 0, .int .i64 0, .func (.func g) #[] #[]] w fun e w' => e = .returned (.tuple #[]) ∧ w' = w := by
  go_enter Tryz.func74, Tryz.ntmps74
  go_wp2_with fail
  refine wp_loop_rounds 1 ?_
  rw [rounds_succ]
  go_wp2_with ((with_reducible refine (insnilGap g _).mono ?_); rintro e w5 ⟨rfl, rfl⟩)
  refine wp_loop_rounds 1 ?_
  rw [rounds_succ]
  go_wp2_with fail
  go_end0
  exact ⟨rfl, rfl⟩
def kfGap (x : Nat × Nat) : Int := x.1
set_option maxRecDepth 100000 in
set_option maxHeartbeats 4000000 in
theorem sortGap_any (w : World) (base : Nat) (v : Value) (l : List (Nat × Nat)) (ho : w.ownsRow base 51 2 v l.length (l.flatMap gpC)) (h40 : l.length ≤ 40) :
    Calls Tryz.prog 48 #[v, .func (.func 49) #[] #[]] w
      fun e w' => e = .returned (.tuple #[]) ∧ Hid (∃ Z, StS kfGap l Z ∧ w'.ownsRow base 51 2 v l.length (Z.flatMap gpC) ∧ w.grownBy w' v.ownBlock) := by
  obtain ⟨a, cap, rfl, hc, hm⟩ := own_shape ho
  cases a with
  | none =>
    have hz : l = [] ∧ cap = 0 := by
      rcases ho.2 with ⟨e0, _⟩ | ⟨g, cap', cur, e0, _⟩
      · simp only [Value.slice.injEq] at e0
        exact ⟨List.length_eq_zero_iff.1 e0.2.1, e0.2.2⟩
      · simp at e0
    obtain ⟨hz, hcap⟩ := hz
    subst hz hcap
    have HO := Lib.hid ho
    clear ho
    rw [List.length_nil]
    go_enter Tryz.func48, Tryz.ntmps48
    go_wp2_with ((with_reducible refine (stabnilGap _ _).mono ?_); rintro e w5 ⟨rfl, rfl⟩)
    go_end0
    exact ⟨rfl, [], StS.self List.Pairwise.nil, HO.out, ⟨rfl, rfl, rfl, Nat.le_refl _, fun _ _ _ => rfl⟩⟩
  | some p =>
    obtain ⟨g, rfl⟩ : ∃ g, p = ⟨g, 0, none⟩ := by
      rcases ho.2 with ⟨e0, _⟩ | ⟨g, cap', cur, e0, _⟩
      · cases e0
      · cases e0; exact ⟨g, rfl⟩
    obtain ⟨cur, hg, hb, hn, hmx, hsz, hlt, hH⟩ := own_holds ho
    have hHK := own_holdsK gpC (by decide) gpC_len ho
    have E : SoE Tryz.prog gpC 2 kfGap (fun x y => ordN (kfGap x) (kfGap y)) 49 g 0 l.length w :=
      ⟨gpC_len, gpC_one, fun x y => ordN_lt _ _, entGap, fun m os dk _ x y => by
        refine Calls.mono (gaporder_any (sortWorldK gpC 2 w g 0 m dk os) x.1 x.2 y.1 y.2) ?_
        rintro e w' ⟨rfl, hx⟩
        exact ⟨rfl, hx.grown⟩, ⟨l.toArray, by simp, hHK⟩, hlt, by omega⟩
    have e0 := sortWorldK_start gpC 2 w g 0 l.toArray hHK
    have C := stableGap E cap l rfl h40 0 #[]
    rw [e0] at C
    have CH := Lib.hid C
    have HO := Lib.hid ho
    clear C E e0 hHK hH hsz hg ho
    generalize hN : l.length = N at *
    have HN := Lib.hid hN
    clear hN
    go_enter Tryz.func48, Tryz.ntmps48
    go_wp2_with ((with_reducible refine CH.out.mono ?_); rintro e w5 ⟨rfl, h5⟩)
    go_end0
    refine ⟨rfl, ?_⟩
    obtain ⟨m', os', Z, hZ, rfl⟩ := h5.out
    have ho := HO.out
    have := own_sorted (m := m') (os := os') gpC (by decide) gpC_len ho hZ.len
    exact ⟨Z, hZ, this⟩

theorem entItem : ∀ args w, (callFunc 53 args).run Tryz.prog w = .ok (.enter 53 args) w := enters_of Tryz.func53 (by kernel_rfl) rfl
set_option maxRecDepth 100000 in
set_option maxHeartbeats 4000000 in
theorem insnilItem (g : Nat) (w : World) : Calls Tryz.prog 111 #[.slice none 0 0, .int .i64 0, .int .i64 0, .func (.func g) #[] #[]] w fun e w' => e = .returned (.tuple #[]) ∧ w' = w := by
  go_enter Tryz.func111, Tryz.ntmps111
  go_wp2_with fail
  refine wp_loop_rounds 1 ?_
  rw [rounds_succ]
  go_wp2_with fail
  go_end0
  exact ⟨rfl, rfl⟩
set_option maxRecDepth 100000 in
set_option maxHeartbeats 4000000 in
theorem stabnilItem (g : Nat) (w : World) : Calls Tryz.prog 75 #[.slice none 0 0, .int .i64 0, .func (.func g) #[] #[]] w fun e w' => e = .returned (.tuple #[]) ∧ w' = w := by
  go_enter Tryz.func75, Tryz.ntmps75
  go_wp2_with fail
  refine wp_loop_rounds 1 ?_
  rw [rounds_succ]
  go_wp2_with ((with_reducible refine (insnilItem g _).mono ?_); rintro e w5 ⟨rfl, rfl⟩)
  refine wp_loop_rounds 1 ?_
  rw [rounds_succ]
  go_wp2_with fail
  go_end0
  exact ⟨rfl, rfl⟩
def kfItem (x : IM) : Int := x.n
set_option maxRecDepth 100000 in
set_option maxHeartbeats 4000000 in
theorem sortItem_any (w : World) (base : Nat) (v : Value) (l : List (IM)) (ho : w.ownsRow base 49 4 v l.length (l.flatMap imC)) (h40 : l.length ≤ 40) :
    Calls Tryz.prog 52 #[v, .func (.func 53) #[] #[]] w
      fun e w' => e = .returned (.tuple #[]) ∧ Hid (∃ Z, StS kfItem l Z ∧ w'.ownsRow base 49 4 v l.length (Z.flatMap imC) ∧ w.grownBy w' v.ownBlock) := by
  obtain ⟨a, cap, rfl, hc, hm⟩ := own_shape ho
  cases a with
  | none =>
    have hz : l = [] ∧ cap = 0 := by
      rcases ho.2 with ⟨e0, _⟩ | ⟨g, cap', cur, e0, _⟩
      · simp only [Value.slice.injEq] at e0
        exact ⟨List.length_eq_zero_iff.1 e0.2.1, e0.2.2⟩
      · simp at e0
    obtain ⟨hz, hcap⟩ := hz
    subst hz hcap
    have HO := Lib.hid ho
    clear ho
    rw [List.length_nil]
    go_enter Tryz.func52, Tryz.ntmps52
    go_wp2_with ((with_reducible refine (stabnilItem _ _).mono ?_); rintro e w5 ⟨rfl, rfl⟩)
    go_end0
    exact ⟨rfl, [], StS.self List.Pairwise.nil, HO.out, ⟨rfl, rfl, rfl, Nat.le_refl _, fun _ _ _ => rfl⟩⟩
  | some p =>
    obtain ⟨g, rfl⟩ : ∃ g, p = ⟨g, 0, none⟩ := by
      rcases ho.2 with ⟨e0, _⟩ | ⟨g, cap', cur, e0, _⟩
      · cases e0
      · cases e0; exact ⟨g, rfl⟩
    obtain ⟨cur, hg, hb, hn, hmx, hsz, hlt, hH⟩ := own_holds ho
    have hHK := own_holdsK imC (by decide) imC_len ho
    have E : SoE Tryz.prog imC 4 kfItem (fun x y => ordN (kfItem x) (kfItem y)) 53 g 0 l.length w :=
      ⟨imC_len, imC_one, fun x y => ordN_lt _ _, entItem, fun m os dk _ x y => by
        refine Calls.mono (itemorder_any (sortWorldK imC 4 w g 0 m dk os) x.n x.t y.n y.t (strOf x.key) (strOf y.key) x.ha y.ha x.av.length x.hc y.av.length y.hc) ?_
        rintro e w' ⟨rfl, hx⟩
        exact ⟨rfl, hx.grown⟩, ⟨l.toArray, by simp, hHK⟩, hlt, by omega⟩
    have e0 := sortWorldK_start imC 4 w g 0 l.toArray hHK
    have C := stableItem E cap l rfl h40 0 #[]
    rw [e0] at C
    have CH := Lib.hid C
    have HO := Lib.hid ho
    clear C E e0 hHK hH hsz hg ho
    generalize hN : l.length = N at *
    have HN := Lib.hid hN
    clear hN
    go_enter Tryz.func52, Tryz.ntmps52
    go_wp2_with ((with_reducible refine CH.out.mono ?_); rintro e w5 ⟨rfl, h5⟩)
    go_end0
    refine ⟨rfl, ?_⟩
    obtain ⟨m', os', Z, hZ, rfl⟩ := h5.out
    have ho := HO.out
    have := own_sorted (m := m') (os := os') imC (by decide) imC_len ho hZ.len
    exact ⟨Z, hZ, this⟩
end Go.Proofs.YtaklnpjpndkccaaGreat

namespace Go.Proofs.YtaklnpjpndkccaaGreat
open Go.RowKit Go.Sort

theorem flat_set {α : Type} (enc : α → List Value) (k : Nat) (hk : ∀ x, (enc x).length = k) (l : List α) (i : Nat) (hi : i < l.length) (x : α) :
    setMany (l.flatMap enc).toArray (i * k) (enc x) = ((l.set i x).flatMap enc).toArray := by
  have hl := flat_len enc k hk l
  have hl2 := flat_len enc k hk (l.set i x)
  rw [List.length_set] at hl2
  have hin : i * k + k ≤ l.length * k := by
    have : (i + 1) * k ≤ l.length * k := Nat.mul_le_mul_right _ hi
    rw [Nat.succ_mul] at this; exact this
  refine ext_get! (by simp only [size_setMany, List.size_toArray, hl, hl2]) fun t ht => ?_
  have ht' : t < l.length * k := by simpa [hl] using ht
  have hk0 : 0 < k := by
    rcases Nat.eq_zero_or_pos k with h | h
    · rw [h, Nat.mul_zero] at ht'; exact absurd ht' (Nat.not_lt_zero _)
    · exact h
  rw [get_setMany _ _ _ t (by simpa [hl] using ht'), hk]
  have hd : t / k < l.length := by rw [Nat.div_lt_iff_lt_mul hk0]; exact ht'
  have hm : t % k < k := Nat.mod_lt _ hk0
  have e : t / k * k + t % k = t := by rw [Nat.mul_comm]; exact Nat.div_add_mod t k
  have g1 := flat_get enc k hk l (t / k) hd (t % k) hm
  have g2 := flat_get enc k hk (l.set i x) (t / k) (by rw [List.length_set]; exact hd) (t % k) hm
  rw [e] at g1 g2
  have hds : t / k < (l.set i x).length := by rw [List.length_set]; exact hd
  have q2 : ((l.set i x).flatMap enc).toArray[t]! = (enc ((l.set i x)[t / k]'hds))[t % k]'(by rw [hk]; exact hm) := by
    rw [getElem!_pos _ t (by simp only [List.size_toArray, hl2]; exact ht')]
    rw [List.getElem?_eq_getElem (by rw [hl2]; exact ht'), List.getElem?_eq_getElem (by rw [hk]; exact hm)] at g2
    simpa using Option.some.inj g2
  have q1 : (l.flatMap enc).toArray[t]! = (enc l[t / k])[t % k]'(by rw [hk]; exact hm) := by
    rw [getElem!_pos _ t (by simp only [List.size_toArray, hl]; exact ht')]
    rw [List.getElem?_eq_getElem (by rw [hl]; exact ht'), List.getElem?_eq_getElem (by rw [hk]; exact hm)] at g1
    simpa using Option.some.inj g1
  rw [q2]
  by_cases hb : t / k = i
  · have hb2 := (blk_iff k i t hk0).2 hb
    rw [if_pos hb2]
    have em : t - i * k = t % k := by subst hb; omega
    rw [em, getElem!_pos _ _ (by rw [hk]; exact hm)]
    have hx : (l.set i x)[t / k]'(by rw [List.length_set]; exact hd) = x := by subst hb; simp
    simp only [hx]
  · rw [if_neg (fun h => hb ((blk_iff k i t hk0).1 h)), q1]
    have hx : (l.set i x)[t / k]'(by rw [List.length_set]; exact hd) = l[t / k] := by rw [List.getElem_set_ne (fun e => hb e.symm)]
    simp only [hx]

theorem own_set {α : Type} {w : World} {base g n cap k : Nat} {e : TypeId} (enc : α → List Value) (hk : ∀ x, (enc x).length = k) {l : List α}
    (h : w.ownsRow base e k (.slice (some ⟨g, 0, none⟩) n cap) n (l.flatMap enc)) (i : Nat) (hi : i < l.length) (x : α) :
    (w.setCells g (i * k) (enc x)).ownsRow base e k (.slice (some ⟨g, 0, none⟩) n cap) n ((l.set i x).flatMap enc) ∧ w.grownBy (w.setCells g (i * k) (enc x)) (some g) := by
  obtain ⟨cur, hg, hb, hn, hm, hs, hlt, hH⟩ := own_holds h
  have hl := flat_len enc k hk l
  have hin : i * k + k ≤ l.length * k := by
    have : (i + 1) * k ≤ l.length * k := Nat.mul_le_mul_right _ hi
    rw [Nat.succ_mul] at this; exact this
  have e1 : w.setCells g (i * k) (enc x) = putRow id w g 0 ((l.set i x).flatMap enc).toArray := by
    have h1 := setCells_putRow w g 0 (enc x) (i * k) (l.flatMap enc).toArray (by rw [hk]; simpa [hl] using hin)
    rw [putRow_self id w g 0 _ hH, Nat.zero_add] at h1
    rw [h1, flat_set enc k hk l i hi x]
  have e2 : putRow id w g 0 ((l.set i x).flatMap enc).toArray = grow (putRow id (Sort.ahead w 0) g 0 ((l.set i x).flatMap enc).toArray) #[] := by rw [grow_empty, Sort.ahead_zero]
  rw [e1, e2]
  exact ⟨own_put h (by rw [hl, flat_len enc k hk, List.length_set]), grownBy_row _⟩
end Go.Proofs.YtaklnpjpndkccaaGreat

namespace Go.Proofs.YtaklnpjpndkccaaGreat
open Go.RowKit Go.Sort

theorem setCell_block_far (w : World) (a : Addr) (v : Value) (k : Nat) (h : k ≠ a.block) : (w.setCell a v).heap[k]? = w.heap[k]? := by
  show (w.heap.modify a.block _)[k]? = w.heap[k]?
  rw [Array.getElem?_modify, if_neg (fun e => h e.symm)]
theorem cell_far (w : World) (g j h k : Nat) (u : Value) (hne : g ≠ h) : (w.setCell ⟨g, j, none⟩ u).cell? ⟨h, k, none⟩ = w.cell? ⟨h, k, none⟩ := by
  unfold World.cell?
  rw [setCell_block_far w ⟨g, j, none⟩ u h (Ne.symm hne)]
theorem own_set1 {w : World} {base g n cap k : Nat} {e : TypeId} {xs : List Value} (h : w.ownsRow base e k (.slice (some ⟨g, 0, none⟩) n cap) n xs) {j : Nat} (hj : j < xs.length) (u : Value) :
    (w.setCell ⟨g, j, none⟩ u).ownsRow base e k (.slice (some ⟨g, 0, none⟩) n cap) n (xs.set j u) ∧ w.grownBy (w.setCell ⟨g, j, none⟩ u) (some g) := by
  obtain ⟨cur, hg, hb, hn, hm, hs, hlt, hH⟩ := own_holds h
  have h1 := setCells_putRow w g 0 [u] j xs.toArray (by simp; omega)
  rw [putRow_self id w g 0 _ hH, Nat.zero_add] at h1
  have e1 : w.setCells g j [u] = w.setCell ⟨g, j, none⟩ u := rfl
  rw [e1] at h1
  have e3 : setMany xs.toArray j [u] = (xs.set j u).toArray := by simp [setMany]
  rw [e3] at h1
  have e2 : putRow id w g 0 (xs.set j u).toArray = grow (putRow id (Sort.ahead w 0) g 0 (xs.set j u).toArray) #[] := by rw [grow_empty, Sort.ahead_zero]
  rw [h1, e2]
  exact ⟨own_put h (by simp), grownBy_row _⟩
end Go.Proofs.YtaklnpjpndkccaaGreat

namespace Go.Proofs.YtaklnpjpndkccaaGreat
open Go.RowKit

theorem setCell_blockJ {w : World} {b : Nat} (i : Nat) (v : Value) {c : Array Value} {t : TypeId} {fr : Nat × Nat} (h : w.heap[b]? = some (.cells c t fr)) : (w.setCell ⟨b, i, none⟩ v).heap[b]? = some (.cells (c.setIfInBounds i v) t fr) := by
  unfold World.setCell
  simp [Array.getElem?_modify, h]
theorem grown_setJ (w : World) (b j : Nat) (v : Value) : w.grownBy (w.setCell ⟨b, j, none⟩ v) (some b) := by
  have h := Below.setCell (Below.refl b w) (p := ⟨b, j, none⟩) (Nat.le_refl _) v
  refine ⟨h.os, h.tape, h.output, by rw [World.size_setCell]; exact Nat.le_refl _, fun k hk hne => ?_⟩
  exact setCell_block_far w ⟨b, j, none⟩ v k (fun e => hne (by rw [e]))
theorem grown_rowJ (w : World) (b : Nat) (cs : Array Value) : w.grownBy (w.setRow b cs) (some b) := by
  refine ⟨rfl, rfl, rfl, by simp, fun k hk hne => ?_⟩
  exact setRow_other w b k cs (fun e => hne (by rw [e]))
theorem own_setJ {w : World} {base size n b : Nat} {e t : TypeId} {v : Value} {xs : List Value} {c : Array Value} {fr : Nat × Nat} (h : w.ownsRow base e size v n xs) (hb : w.heap[b]? = some (.cells c t fr)) (he : e ≠ t) (i : Nat) (u : Value) : (w.setCell ⟨b, i, none⟩ u).ownsRow base e size v n xs :=
  own_keep h (grown_setJ w b i u) fun _ hk e2 => own_ne h hb he (hk.trans e2.symm)
theorem own_rowJ {w : World} {base size n b : Nat} {e t : TypeId} {v : Value} {xs : List Value} {c : Array Value} {fr : Nat × Nat} (h : w.ownsRow base e size v n xs) (hb : w.heap[b]? = some (.cells c t fr)) (he : e ≠ t) (cs : Array Value) : (w.setRow b cs).ownsRow base e size v n xs :=
  own_keep h (grown_rowJ w b cs) fun _ hk e2 => own_ne h hb he (hk.trans e2.symm)

abbrev AttrO (b : Nat) (w : World) (h : Value) (l : List (List UInt8 × V)) : Prop := w.ownsRow b 82 5 h l.length (l.flatMap aC)
theorem sizeItem : (Tryz.prog.info? 49).map (·.size) = some 4 := by kernel_rfl
theorem sizeDel : (Tryz.prog.info? 53).map (·.size) = some 6 := by kernel_rfl
set_option maxRecDepth 100000 in
set_option maxHeartbeats 4000000 in
theorem icopied_any (w : World) (x : IM) (hs : AttrR w x.h x.av) (hl : x.av.length * 56 ≤ 140737488355328) :
    Calls Tryz.prog 35 #[.agg #[.int .u64 x.n, .int .u64 x.t, .string (strOf x.key), .slice x.ha x.av.length x.hc]] w
      fun e w' => ∃ ha hc, e = .returned (.agg #[.int .u64 x.n, .int .u64 x.t, .string (strOf x.key), .slice ha x.av.length hc]) ∧ AttrO w.heap.size w' (.slice ha x.av.length hc) x.av ∧ Ext w w' := by
  obtain ⟨n, t, key, ha, hc, av⟩ := x
  dsimp only [IM.h] at *
  obtain ⟨hx0, hb1, hb2⟩ := boxes2 w (.cells #[.int .u64 n, .int .u64 t, .string (strOf key), .slice ha av.length hc] 49) (.cells #[.int .u64 0, .int .u64 0, .string ⟨#[]⟩, .slice none 0 0] 49)
  have hcl := cloneAttr_any _ _ av (hs.ext hx0) hl
  have c3 := cell_of_row _ _ 3 _ _ _ hb1
  have HB1 := Lib.hid hb1
  have HB2 := Lib.hid hb2
  have HX0 := Lib.hid hx0
  have HS := Lib.hid hs
  have HCL := Lib.hid hcl
  clear hb1 hb2 hx0 hcl hs
  generalize hN : av.length = N at *
  have HN := Lib.hid hN
  clear hN
  go_enter Tryz.func35, Tryz.ntmps35
  go_wp2_with fail
  generalize (w.alloc (.cells #[.int .u64 n, .int .u64 t, .string (strOf key), .slice ha N hc] 49)).alloc (.cells #[.int .u64 0, .int .u64 0, .string ⟨#[]⟩, .slice none 0 0] 49) = w0 at *
  refine HCL.out.mono ?_
  rintro e w1 ⟨v3, rfl, ho, hx1⟩
  obtain ⟨a3, cap3, rfl, hc3, hm3⟩ := own_shape ho
  clear c3 HCL
  have hb1 := block_later HB1.out hx1
  have hb2 := block_later HB2.out hx1
  have d3 := cell_of_row _ _ 3 _ _ _ hb1
  have z3 := frozen_of_row _ _ 3 _ _ hb1
  have hb1b := setCell_blockJ 3 (.slice a3 N cap3) hb1
  have hb2b : (w1.setCell ⟨w.heap.size, 3, none⟩ (.slice a3 N cap3)).heap[w.heap.size + 1]? = _ := (setCell_block_far w1 _ _ _ (by show w.heap.size + 1 ≠ w.heap.size; omega)).trans hb2
  have ho2 := own_setJ ho hb1 (by decide) 3 (.slice a3 N cap3)
  have HOB := Lib.hid ho2
  have hx2 := ((HX0.out.trans hx1).setCell (p := ⟨w.heap.size, 3, none⟩) (Nat.le_refl _) (.slice a3 N cap3))
  have HX2 := Lib.hid hx2
  have HB1b := Lib.hid hb1b
  have HB2b := Lib.hid hb2b
  have hsz : w.heap.size ≤ w0.heap.size := HX0.out.size
  have HSZ := Lib.hid hsz
  clear hb1 hb2 hb1b hb2b ho2 hx2 hsz
  go_upto_region 2 with fail
  clear d3 z3 HB1 HB2
  have hb1 := HB1b.out
  simp only [List.setIfInBounds_toArray, List.set_cons_zero, List.set_cons_succ] at hb1
  generalize w1.setCell ⟨w.heap.size, 3, none⟩ (.slice a3 N cap3) = w2 at *
  have e0 := cell_of_row _ _ 0 _ _ _ hb1
  have e1 := cell_of_row _ _ 1 _ _ _ hb1
  have e2 := cell_of_row _ _ 2 _ _ _ hb1
  have e3 := cell_of_row _ _ 3 _ _ _ hb1
  clear hb1
  go_wp2_with (refine wpList_store_whole 49 (.tmp 2) (.tmp 9) rfl rfl (w.heap.size + 1) rfl #[.int .u64 n, .int .u64 t, .string (strOf key), .slice a3 N cap3] rfl _ 49 HB2b.out rfl sizeItem (by simp [Value.oneCell']) ?_)
  have hr := setRow_heap w2 (w.heap.size + 1) _ #[.int .u64 n, .int .u64 t, .string (strOf key), .slice a3 N cap3] 49 (0, 0) HB2b.out
  have g0 := cell_of_row _ _ 0 _ _ _ hr
  have g1 := cell_of_row _ _ 1 _ _ _ hr
  have g2 := cell_of_row _ _ 2 _ _ _ hr
  have g3 := cell_of_row _ _ 3 _ _ _ hr
  have ho3 := own_low (own_rowJ HOB.out HB2b.out (by decide) #[.int .u64 n, .int .u64 t, .string (strOf key), .slice a3 N cap3]) HSZ.out
  have hxe := HX2.out.setRow (g := w.heap.size + 1) (Nat.le_succ _) #[.int .u64 n, .int .u64 t, .string (strOf key), .slice a3 N cap3]
  refine bodyPost_ret (v := .agg #[.int .u64 n, .int .u64 t, .string (strOf key), .slice a3 N cap3]) (by simp [results, Tryz.results35, go_sem, g0, g1, g2, g3]) rfl ⟨_, _, rfl, by show World.ownsRow _ _ _ _ _ _ _; rw [HN.out]; exact ho3, hxe⟩
end Go.Proofs.YtaklnpjpndkccaaGreat

namespace Go.Proofs.YtaklnpjpndkccaaGreat
open Go.RowKit

def Away (bi bg : Nat) (h : Value) : Prop := ∀ p n c, h = .slice (some p) n c → p.block ≠ bi ∧ p.block ≠ bg
theorem addr_add_block (p : Addr) (k : Nat) : (p.add k).block = p.block := by unfold Addr.add; split <;> rfl
/-- 'x[i:]' of a slice, within its length: the slice itself, under names. -/
theorem wpList_cutB {P : Program} {ops : Array Oper} {Q : Exit → Act → World → Prop} {a : Act} {w : World} {rest : List Oper} {o : Oper}
    (t e : TypeId) (x : Operand) (lo hi : Option Operand) (size n i j cap m : Nat) (ad : Option Addr) (hm : j - i = m)
    (ho : o.op = .slice t x lo hi none) (ht : P.underlying t = some (.slice e)) (hs : (P.info? e).map (·.size) = some size)
    (hw : Region.wanted o (yielded ops a.tmps) = true) (hv : a.eval x = .slice ad n cap) (hc : n ≤ cap)
    (hlo : BoundIs a lo 0 i) (hhi : BoundIs a hi n j) (hij : i ≤ j) (hj : j ≤ n)
    (h : ∀ ad' c', Hid (ad' = (if cap = i then ad else ad.map (·.add (i * size))) ∧ c' = cap - i) → wpList P ops Q rest (a.put o.dst (.slice ad' m c')) w) : wpList P ops Q (o :: rest) a w := by
  have hi' : ∃ q, P.info? e = some q ∧ q.size = size := by
    cases hq : P.info? e with
    | none => rw [hq] at hs; cases hs
    | some q => rw [hq] at hs; exact ⟨q, rfl, by simpa using hs⟩
  obtain ⟨q, hq, hqs⟩ := hi'
  have hr : (execOp a.eval o).run P w = .ok (.value (.slice (if cap = i then ad else ad.map (·.add (i * size))) (j - i) (cap - i))) w := by
    simp [execOp, ho, Instr.sliceAt, run_underlying ht, Instr.slice, hv, run_sliceBounds_nat w a lo hi hlo hhi hij hj hc, sizeOf, typeInfo, hq, hqs]
  rw [hm] at hr
  exact wpList_val hw hr (h _ _ ⟨rfl, rfl⟩)
theorem Away.cut {bi bg n m cap i size : Nat} {ad ad' : Option Addr} {c' : Nat} (h : Away bi bg (.slice ad n cap)) (e : ad' = if cap = i then ad else ad.map (·.add (i * size))) : Away bi bg (.slice ad' m c') := by
  intro p k c e2
  simp only [Value.slice.injEq] at e2
  rw [e2.1] at e
  split at e
  · exact h p n cap (by rw [← e])
  · cases ad with
    | none => cases e
    | some q =>
      simp only [Option.map_some, Option.some.injEq] at e
      rw [e, addr_add_block]
      exact h q n cap rfl

theorem tail_row {α : Type} (f : α → List Value) (sz : Nat) (hf : ∀ x, (f x).length = sz) {w : World} {x : α} {l : List α} {ad ad' : Option Addr} {c c' : Nat} (h : Row w sz (.slice ad (l.length + 1) c) (l.length + 1) ((x :: l).flatMap f)) (hc : l.length + 1 ≤ c)
    (e : ad' = (if c = 1 then ad else ad.map (·.add (1 * sz))) ∧ c' = c - 1) : Row w sz (.slice ad' l.length c') l.length (l.flatMap f) := by
  have := Row.sub h 1 (l.length + 1) (by omega) (Nat.le_refl _) (c - 1) (by omega) (Nat.le_refl _)
  rw [flat_take f sz hf, flat_drop f sz hf] at this
  rw [e.1, e.2]
  simpa using this
theorem grown3 {w w3 : World} {bg r : Nat} (h : Ext w w3) (v : Value) (cs : Array Value) (hr : w.heap.size ≤ r) : w.grownBy ((w3.setCell ⟨bg, 0, none⟩ v).setRow r cs) (some bg) := by
  have h1 := grown_setJ w3 bg 0 v
  have h2 := grown_rowJ (w3.setCell ⟨bg, 0, none⟩ v) r cs
  exact ⟨(h2.os.trans h1.os).trans h.os, (h2.tape.trans h1.tape).trans h.tape, (h2.output.trans h1.output).trans h.output, Nat.le_trans h.size (Nat.le_trans h1.size h2.size), fun k hk hne => ((h2.block k (Nat.lt_of_lt_of_le hk (Nat.le_trans h.size h1.size)) (by intro e; cases e; omega)).trans (h1.block k (Nat.lt_of_lt_of_le hk h.size) hne)).trans (h.block k hk)⟩

theorem sizeGap : (Tryz.prog.info? 51).map (·.size) = some 2 := by kernel_rfl
def DM.ofG (x : Nat × Nat) : DM := ⟨0, 0, [], none, 0, [], x.1, x.2⟩
/-- A slice whose block is of a type, and none of two. -/
def AwayT (W : World) (t : TypeId) (bi bg : Nat) (h : Value) : Prop := Away bi bg h ∧ ∀ p n c, h = .slice (some p) n c → ∃ cs fr, W.heap[p.block]? = some (.cells cs t fr)
theorem AwayT.ext {W W' : World} {t : TypeId} {bi bg : Nat} {h : Value} (k : AwayT W t bi bg h) (hx : Ext W W') : AwayT W' t bi bg h := ⟨k.1, fun p n c e => by
  obtain ⟨cs, fr, hc⟩ := k.2 p n c e
  exact ⟨cs, fr, block_later hc hx⟩⟩
theorem AwayT.keep {W W' : World} {t : TypeId} {bi bg : Nat} {h : Value} (k : AwayT W t bi bg h) {b : Nat} (hb : b = bi ∨ b = bg) (hg : W.grownBy W' (some b)) : AwayT W' t bi bg h := ⟨k.1, fun p n c e => by
  obtain ⟨cs, fr, hc⟩ := k.2 p n c e
  have ha := k.1 p n c e
  refine ⟨cs, fr, (hg.block _ (Array.getElem?_eq_some_iff.1 hc).1 fun e2 => ?_).trans hc⟩
  cases e2
  rcases hb with e3 | e3
  · exact ha.1 e3
  · exact ha.2 e3⟩
theorem AwayT.cut {W : World} {t : TypeId} {bi bg n m cap i size : Nat} {ad ad' : Option Addr} {c' : Nat} (h : AwayT W t bi bg (.slice ad n cap)) (e : ad' = if cap = i then ad else ad.map (·.add (i * size))) : AwayT W t bi bg (.slice ad' m c') := by
  refine ⟨h.1.cut e, fun p k c e2 => ?_⟩
  simp only [Value.slice.injEq] at e2
  rw [e2.1] at e
  split at e
  · exact h.2 p n cap (by rw [← e])
  · cases ad with
    | none => cases e
    | some q =>
      simp only [Option.map_some, Option.some.injEq] at e
      rw [e, addr_add_block]
      exact h.2 q n cap rfl
/-- What is left of a page: two boxes of slices; the items' attributes lie in older memory. -/
structure LesR (w0 W : World) (bi bg : Nat) (is : List IM) (gs : List (Nat × Nat)) : Prop where
  itm : ∃ a c, W.heap[bi]? = some (.cells #[.slice a is.length c] 31 (0, 0)) ∧ Row W 4 (.slice a is.length c) is.length (is.flatMap imC) ∧ AwayT W 49 bi bg (.slice a is.length c)
  gps : ∃ a c, W.heap[bg]? = some (.cells #[.slice a gs.length c] 32 (0, 0)) ∧ Row W 2 (.slice a gs.length c) gs.length (gs.flatMap gpC) ∧ AwayT W 51 bi bg (.slice a gs.length c)
  ne : bi ≠ bg
  hs : ∀ x ∈ is, AttrR w0 x.h x.av ∧ x.av.length * 56 ≤ 140737488355328
  old : w0.heap.size ≤ bi ∧ w0.heap.size ≤ bg ∧ Ext w0 W
theorem row_away {w w' : World} {size n bi bg : Nat} {v : Value} {xs : List Value} {t : TypeId} (h : Row w size v n xs) (ha : AwayT w t bi bg v) {b : Nat} (hb : b = bi ∨ b = bg) (hg : w.grownBy w' (some b)) : Row w' size v n xs :=
  row_kept h hg fun B o k c e => by
    have := ha.1 ⟨B, o, none⟩ k c e
    intro e2
    cases e2
    rcases hb with rfl | rfl
    · exact this.1 rfl
    · exact this.2 rfl
theorem LesR.later {w0 W W' : World} {bi bg : Nat} {is : List IM} {gs : List (Nat × Nat)} (h : LesR w0 W bi bg is gs) (hx : Ext W W') : LesR w0 W' bi bg is gs := by
  obtain ⟨a, c, h1, h2, h3⟩ := h.itm
  obtain ⟨a', c', k1, k2, k3⟩ := h.gps
  exact ⟨⟨a, c, block_later h1 hx, h2.ext hx, h3.ext hx⟩, ⟨a', c', block_later k1 hx, k2.ext hx, k3.ext hx⟩, h.ne, h.hs, h.old.1, h.old.2.1, h.old.2.2.trans hx⟩

/-- Is a gap the lesser? -/
def gapB (is : List IM) (gs : List (Nat × Nat)) : Bool :=
  match is, gs with
  | [], _ => true
  | _ :: _, [] => false
  | i :: _, g :: _ => decide (g.1 ≤ i.n)
set_option maxRecDepth 100000 in
set_option maxHeartbeats 4000000 in
theorem lesser_gap (w0 w : World) (bi bg : Nat) (is : List IM) (g : Nat × Nat) (gs : List (Nat × Nat)) (h : LesR w0 w bi bg is (g :: gs)) (hE : gapB is (g :: gs) = true) :
    Calls Tryz.prog 54 #[.pointer (some ⟨bi, 0, none⟩), .pointer (some ⟨bg, 0, none⟩)] w
      fun e w' => e = .returned (.agg (dmC (DM.ofG g)).toArray) ∧ LesR w0 w' bi bg is gs ∧ w.grownBy w' (some bg) := by
  obtain ⟨hx, hb⟩ := boxes1 w (.cells #[.int .u64 0, .int .u64 0, .string ⟨#[]⟩, .slice none 0 0, .int .u64 0, .int .u64 0] 53)
  obtain ⟨a1, c1, i1, i2, i3⟩ := h.itm
  obtain ⟨a2, c2, g1, g2, g3⟩ := h.gps
  have k1 := cell_of_row _ _ 0 _ _ _ (block_later i1 hx)
  have k2 := cell_of_row _ _ 0 _ _ _ (block_later g1 hx)
  obtain ⟨B, o, rfl⟩ := Row.base g2 (Nat.succ_pos _) (by decide)
  have q0 := hx.cell (Row.cellAt (u := .int .u64 g.1) (j := 0) g2 rfl (Nat.succ_pos _))
  have q1 := hx.cell (Row.cellAt (u := .int .u64 g.2) (j := 1) g2 rfl (Nat.succ_pos _))
  rw [Nat.add_zero] at q0
  have hw : Hid (bg < w.heap.size ∧ bi < w.heap.size) := ⟨(Array.getElem?_eq_some_iff.1 g1).1, (Array.getElem?_eq_some_iff.1 i1).1⟩
  have HX := Lib.hid hx
  have HB := Lib.hid hb
  have HI := Lib.hid (And.intro (block_later i1 hx) (And.intro (i2.ext hx) (i3.ext hx)))
  have HG := Lib.hid (And.intro (block_later g1 hx) (And.intro (g2.ext hx) (g3.ext hx)))
  have HO := Lib.hid h.old
  have HS := Lib.hid h.hs
  have HI1 := Lib.hid (And.intro i1 (And.intro i2 i3))
  have HG1 := Lib.hid (And.intro g2 g3)
  have HNE := Lib.hid h.ne
  have hc2 : gs.length + 1 ≤ c2 := by obtain ⟨_, _, e, h1, _⟩ := Row.shape g2; cases e; exact h1
  have hn0 : decide ((0 : Int) < ((gs.length + 1 : Nat) : Int)) = true := decide_eq_true (by omega)
  have hi0 : is = [] ∨ ∃ i is', is = i :: is' ∧ g.1 ≤ i.n := by
    cases is with
    | nil => exact .inl rfl
    | cons i is' => exact .inr ⟨i, is', rfl, of_decide_eq_true hE⟩
  have HI0 := Lib.hid hi0
  clear h i1 g1 g2 g3 hx hb hE
  obtain ⟨f0, f1⟩ := g
  dsimp only at *
  go_enter Tryz.func54, Tryz.ntmps54
  go_upto_region 1 with fail
  generalize w.alloc (.cells #[.int .u64 0, .int .u64 0, .string ⟨#[]⟩, .slice none 0 0, .int .u64 0, .int .u64 0] 53) = w1 at *
  go_cut [23] from 5 to 23 (fun v wx => v = .bool true ∧ ∃ q, wx = w1.drewN q)
  case first =>
    rcases HI0.out with rfl | ⟨i, is', rfl, hle⟩
    · rw [List.length_nil] at k1
      go_quiet (fail)
      go_wp2_with fail
      go_meet
      exact ⟨rfl, _, rfl⟩
    · have hle2 : decide ((f0 : Int) ≤ (i.n : Int)) = true := decide_eq_true (by omega)
      obtain ⟨_, r2, _⟩ := HI.out
      obtain ⟨B2, o2, rfl⟩ := Row.base r2 (Nat.succ_pos _) (by decide)
      have r0 := Row.cellAt (u := .int .u64 i.n) (j := 0) r2 rfl (Nat.succ_pos _)
      rw [Nat.add_zero] at r0
      obtain ⟨ni, hni⟩ : ∃ x, x = (i :: is').length := ⟨_, rfl⟩
      have hni0 : ((ni : Int) == 0) = false := by
        have : ¬ (ni : Int) = 0 := by rw [hni, List.length_cons]; omega
        simpa using this
      have hni1 : (0 : Int) < (ni : Int) := by rw [hni, List.length_cons]; omega
      have hng1 : (0 : Int) < ((gs.length + 1 : Nat) : Int) := by omega
      rw [← hni] at k1
      clear hni r2 i2 i3 HI
      go_quiet (fail)
      go_wp2_with fail
      go_meet
      exact ⟨rfl, _, rfl⟩
  case rest =>
    obtain ⟨rfl, q, rfl⟩ := hcut
    have hx1 : Ext w (w1.drewN q) := HX.out.drewN q
    obtain ⟨hx2, hb2⟩ := boxes1 (w1.drewN q) (.cells #[.int .u64 0, .int .u64 0] 51)
    have HB2 := Lib.hid hb2
    have HX2 := Lib.hid (hx1.trans hx2)
    have HBb := Lib.hid (block_later (w := w1.drewN q) HB.out hx2)
    have HG2 := Lib.hid (block_later (w := w1.drewN q) HG.out.1 hx2)
    have HSZ : Hid (w.heap.size < w1.heap.size) := (Array.getElem?_eq_some_iff.1 HB.out).1
    clear hx1 hx2 hb2
    go_upto_region 3 with (refine wpList_store_whole 51 (.tmp 3) (.tmp 26) rfl rfl w1.heap.size rfl #[.int .u64 f0, .int .u64 f1] rfl _ 51 HB2.out rfl sizeGap (by simp [Value.oneCell']) ?_)
    have hltg : bg < w1.heap.size := (Array.getElem?_eq_some_iff.1 HG.out.1).1
    have hlti : bi < w1.heap.size := (Array.getElem?_eq_some_iff.1 HI.out.1).1
    have h3b := setRow_heap _ w1.heap.size _ #[.int .u64 f0, .int .u64 f1] 51 (0, 0) HB2.out
    have h3g := (setRow_other _ w1.heap.size bg #[.int .u64 f0, .int .u64 f1] (by omega)).trans HG2.out
    have h3r := (setRow_other _ w1.heap.size w.heap.size #[.int .u64 f0, .int .u64 f1] (by have := HSZ.out; omega)).trans HBb.out
    have HX3 := Lib.hid (HX2.out.setRow (g := w1.heap.size) (by have := HSZ.out; omega) #[.int .u64 f0, .int .u64 f1])
    generalize (((w1.drewN q).alloc (.cells #[.int .u64 0, .int .u64 0] 51)).setRow w1.heap.size #[.int .u64 f0, .int .u64 f1]) = w3 at *
    have m0 := cell_of_row _ _ 0 _ _ _ h3g
    have z0 := frozen_of_row _ _ 0 _ _ h3g
    have H3 := Lib.hid (And.intro h3b (And.intro h3g h3r))
    clear h3b h3g h3r HB2 HX2 HBb HG2 k1 k2 q0 q1 hn0
    go_upto_region 4 with (refine wpList_cutB 32 51 (.tmp 27) (some (.const (.int .i64 1))) none 2 (gs.length + 1) 1 (gs.length + 1) c2 gs.length (some ⟨B, o, none⟩) rfl rfl Tryz.underlying32 sizeGap rfl rfl hc2 ⟨_, 1, rfl, by decide, rfl⟩ rfl (by omega) (Nat.le_refl _) ?_; intro ad' c' hcut)
    have h4b := (setCell_block_far w3 ⟨bg, 0, none⟩ (.slice ad' gs.length c') w1.heap.size (by show w1.heap.size ≠ bg; omega)).trans H3.out.1
    have h4r := (setCell_block_far w3 ⟨bg, 0, none⟩ (.slice ad' gs.length c') w.heap.size (by have := hw.out; show w.heap.size ≠ bg; omega)).trans H3.out.2.2
    have h4g := setCell_blockJ 0 (.slice ad' gs.length c') H3.out.2.1
    simp only [List.setIfInBounds_toArray, List.set_cons_zero] at h4g
    have hgr := grown3 (bg := bg) (r := w.heap.size) HX3.out (.slice ad' gs.length c') #[.int .u64 0, .int .u64 0, .string ⟨#[]⟩, .slice none 0 0, .int .u64 f0, .int .u64 f1] (Nat.le_refl _)
    generalize w3.setCell ⟨bg, 0, none⟩ (.slice ad' gs.length c') = w4 at *
    have m0 := cell_of_row _ _ 0 _ _ _ h4b
    have m1 := cell_of_row _ _ 1 _ _ _ h4b
    have H4r := Lib.hid h4r
    have H4g := Lib.hid h4g
    have HGR := Lib.hid hgr
    clear h4b h4r h4g hgr hltg hlti z0 H3 HX3
    go_wp2_with (refine wpList_store_whole 53 (.tmp 2) (.tmp 30) rfl rfl w.heap.size rfl #[.int .u64 0, .int .u64 0, .string ⟨#[]⟩, .slice none 0 0, .int .u64 f0, .int .u64 f1] rfl _ 53 H4r.out rfl sizeDel (by simp [Value.oneCell']) ?_)
    have hr := setRow_heap w4 w.heap.size _ #[.int .u64 0, .int .u64 0, .string ⟨#[]⟩, .slice none 0 0, .int .u64 f0, .int .u64 f1] 53 (0, 0) H4r.out
    have r0 := cell_of_row _ _ 0 _ _ _ hr
    have r1 := cell_of_row _ _ 1 _ _ _ hr
    have r2 := cell_of_row _ _ 2 _ _ _ hr
    have r3 := cell_of_row _ _ 3 _ _ _ hr
    have r4 := cell_of_row _ _ 4 _ _ _ hr
    have r5 := cell_of_row _ _ 5 _ _ _ hr
    have hbg := (setRow_other w4 w.heap.size bg #[.int .u64 0, .int .u64 0, .string ⟨#[]⟩, .slice none 0 0, .int .u64 f0, .int .u64 f1] (by have := hw.out; omega)).trans H4g.out
    refine bodyPost_ret (v := .agg #[.int .u64 0, .int .u64 0, .string ⟨#[]⟩, .slice none 0 0, .int .u64 f0, .int .u64 f1]) (by simp [results, Tryz.results54, go_sem, r0, r1, r2, r3, r4, r5]) rfl ⟨rfl, ?_, HGR.out⟩
    generalize w4.setRow w.heap.size #[.int .u64 0, .int .u64 0, .string ⟨#[]⟩, .slice none 0 0, .int .u64 f0, .int .u64 f1] = w5 at *
    have hg := HGR.out
    obtain ⟨i1, i2, i3⟩ := HI1.out
    obtain ⟨g2, g3⟩ := HG1.out
    have hne := HNE.out
    refine ⟨⟨a1, c1, (hg.block bi hw.out.2 (by intro e; cases e; exact hne rfl)).trans i1, row_away i2 i3 (.inr rfl) hg, i3.keep (.inr rfl) hg⟩, ⟨ad', c', hbg, tail_row gpC 2 gpC_len (row_away g2 g3 (.inr rfl) hg) hc2 hcut.out, (g3.keep (.inr rfl) hg).cut hcut.out.1⟩, hne, HS.out, HO.out.1, HO.out.2.1, ?_⟩
    obtain ⟨o1, o2, o3⟩ := HO.out
    exact ⟨hg.os.trans o3.os, hg.tape.trans o3.tape, hg.output.trans o3.output, Nat.le_trans o3.size hg.size, fun k hk => (hg.block k (Nat.lt_of_lt_of_le hk o3.size) (by intro e; cases e; omega)).trans (o3.block k hk)⟩
end Go.Proofs.YtaklnpjpndkccaaGreat

namespace Go.Proofs.YtaklnpjpndkccaaGreat
open Go.RowKit

def DM.ofI (x : IM) : DM := ⟨x.n, x.t, x.key, x.ha, x.hc, x.av, 0, 0⟩
set_option maxRecDepth 100000 in
set_option maxHeartbeats 1000000 in
theorem lesser_item (w0 w : World) (bi bg : Nat) (x : IM) (is : List IM) (gs : List (Nat × Nat)) (h : LesR w0 w bi bg (x :: is) gs) (hE : gapB (x :: is) gs = false) :
    Calls Tryz.prog 54 #[.pointer (some ⟨bi, 0, none⟩), .pointer (some ⟨bg, 0, none⟩)] w
      fun e w' => ∃ ha hc, e = .returned (.agg (dmC (DM.ofI { x with ha := ha, hc := hc })).toArray) ∧ AttrO w.heap.size w' (.slice ha x.av.length hc) x.av ∧ LesR w0 w' bi bg is gs ∧ w.grownBy w' (some bi) := by
  obtain ⟨hx, hb⟩ := boxes1 w (.cells #[.int .u64 0, .int .u64 0, .string ⟨#[]⟩, .slice none 0 0, .int .u64 0, .int .u64 0] 53)
  obtain ⟨a1, c1, i1, i2, i3⟩ := h.itm
  obtain ⟨a2, c2, g1, g2, g3⟩ := h.gps
  have k1 := cell_of_row _ _ 0 _ _ _ (block_later i1 hx)
  have k2 := cell_of_row _ _ 0 _ _ _ (block_later g1 hx)
  obtain ⟨B, o, rfl⟩ := Row.base i2 (Nat.succ_pos _) (by decide)
  have q0 := hx.cell (Row.cellAt (u := .int .u64 x.n) (j := 0) i2 rfl (Nat.succ_pos _))
  have q1 := hx.cell (Row.cellAt (u := .int .u64 x.t) (j := 1) i2 rfl (Nat.succ_pos _))
  have q2 := hx.cell (Row.cellAt (u := .string (strOf x.key)) (j := 2) i2 rfl (Nat.succ_pos _))
  have q3 := hx.cell (Row.cellAt (u := .slice x.ha x.av.length x.hc) (j := 3) i2 rfl (Nat.succ_pos _))
  rw [Nat.add_zero] at q0
  have hw : Hid (bg < w.heap.size ∧ bi < w.heap.size) := ⟨(Array.getElem?_eq_some_iff.1 g1).1, (Array.getElem?_eq_some_iff.1 i1).1⟩
  have HX := Lib.hid hx
  have HB := Lib.hid hb
  have HI := Lib.hid (And.intro (block_later i1 hx) (And.intro (i2.ext hx) (i3.ext hx)))
  have HG := Lib.hid (And.intro (block_later g1 hx) (And.intro (g2.ext hx) (g3.ext hx)))
  have HO := Lib.hid h.old
  have HS := Lib.hid h.hs
  have HI1 := Lib.hid (And.intro i2 i3)
  have HG1 := Lib.hid (And.intro g1 (And.intro g2 g3))
  have HNE := Lib.hid h.ne
  have hc1 : is.length + 1 ≤ c1 := by obtain ⟨_, _, e, h1, _⟩ := Row.shape i2; cases e; exact h1
  have hni1 : (0 : Int) < ((is.length + 1 : Nat) : Int) := by omega
  rw [List.length_cons] at k1
  have hi0 : gs = [] ∨ ∃ g gs', gs = g :: gs' ∧ x.n < g.1 := by
    cases gs with
    | nil => exact .inl rfl
    | cons g gs' => exact .inr ⟨g, gs', rfl, by have := of_decide_eq_false hE; omega⟩
  have HI0 := Lib.hid hi0
  have HXA : Hid (∀ W, Ext w W → AttrR W (.slice x.ha x.av.length x.hc) x.av ∧ x.av.length * 56 ≤ 140737488355328) := fun W hW => by
    have := h.hs x List.mem_cons_self
    exact ⟨this.1.ext (h.old.2.2.trans hW), this.2⟩
  clear h i1 g1 g2 g3 i2 i3 hx hb hE hi0
  obtain ⟨xn, xt, xk, xa, xc, xv⟩ := x
  dsimp only at *
  have CC : Hid (∀ W, Ext w W → Calls Tryz.prog 35 #[.agg #[.int .u64 xn, .int .u64 xt, .string (strOf xk), .slice xa xv.length xc]] W
      fun e w' => ∃ ha hc, e = .returned (.agg #[.int .u64 xn, .int .u64 xt, .string (strOf xk), .slice ha xv.length hc]) ∧ AttrO w.heap.size w' (.slice ha xv.length hc) xv ∧ Ext W w') := fun W hW => by
    refine (icopied_any W ⟨xn, xt, xk, xa, xc, xv⟩ (HXA.out W hW).1 (HXA.out W hW).2).mono ?_
    rintro e w' ⟨ha, hc, rfl, h1, h2⟩
    exact ⟨ha, hc, rfl, own_low h1 hW.size, h2⟩
  generalize hL : xv.length = L at *
  have HLn := Lib.hid hL
  clear hL HXA
  go_enter Tryz.func54, Tryz.ntmps54
  go_upto_region 1 with fail
  generalize w.alloc (.cells #[.int .u64 0, .int .u64 0, .string ⟨#[]⟩, .slice none 0 0, .int .u64 0, .int .u64 0] 53) = w1 at *
  go_cut [23] from 5 to 23 (fun v wx => v = .bool false ∧ ∃ q, wx = w1.drewN q)
  case first =>
    clear q1 q2 q3 CC HI HI1 HS hc1
    obtain ⟨ni, hni⟩ : ∃ ni, ni = is.length + 1 := ⟨_, rfl⟩
    rw [← hni] at k1 hni1
    have hni0 : ((ni : Int) == 0) = false := by
      have : ¬ (ni : Int) = 0 := by omega
      simpa using this
    clear hni
    rcases HI0.out with rfl | ⟨g, gs', rfl, hle⟩
    · rw [List.length_nil] at k2
      go_quiet (fail)
      go_wp2_with fail
      go_meet
      exact ⟨rfl, _, rfl⟩
    · have hle2 : decide ((g.1 : Int) ≤ (xn : Int)) = false := decide_eq_false (by omega)
      obtain ⟨_, r2, _⟩ := HG.out
      obtain ⟨B2, o2, rfl⟩ := Row.base r2 (Nat.succ_pos _) (by decide)
      have r0 := Row.cellAt (u := .int .u64 g.1) (j := 0) r2 rfl (Nat.succ_pos _)
      rw [Nat.add_zero] at r0
      obtain ⟨ng, hng⟩ : ∃ x, x = (g :: gs').length := ⟨_, rfl⟩
      have hng1 : (0 : Int) < (ng : Int) := by rw [hng, List.length_cons]; omega
      have hng0 : decide (0 < ng) = true := decide_eq_true (by omega)
      rw [← hng] at k2
      clear hng r2 HG HG1
      go_quiet (fail)
      go_wp2_with fail
      go_meet
      exact ⟨by rw [decide_eq_false (by omega)], _, rfl⟩
  case rest =>
    obtain ⟨rfl, q, rfl⟩ := hcut
    have hx1 : Ext w (w1.drewN q) := HX.out.drewN q
    have C := Lib.hid (CC.out _ hx1)
    have HX1 := Lib.hid hx1
    have HSZ : Hid (w.heap.size < w1.heap.size) := (Array.getElem?_eq_some_iff.1 HB.out).1
    have hltg : bg < w1.heap.size := (Array.getElem?_eq_some_iff.1 HG.out.1).1
    have hlti : bi < w1.heap.size := (Array.getElem?_eq_some_iff.1 HI.out.1).1
    clear hx1 CC
    go_upto_region 6 with (go_at_call 35; refine C.out.mono ?_; rintro e w2 ⟨ha, hc, rfl, hat, hx2⟩; have HAT := Lib.hid hat; have HX2 := Lib.hid hx2; clear hat hx2)
    obtain ⟨hx3, hb3⟩ := boxes1 w2 (.cells #[.int .u64 xn, .int .u64 xt, .string (strOf xk), .slice ha L hc] 49)
    have h1le : w1.heap.size ≤ w2.heap.size := HX2.out.size
    have hI3 := block_later (block_later (w := w1.drewN q) HI.out.1 HX2.out) hx3
    have hR3 := block_later (block_later (w := w1.drewN q) HB.out HX2.out) hx3
    have HX3 := Lib.hid ((HX1.out.trans HX2.out).trans hx3)
    have HAT3 := Lib.hid (own_ext HAT.out hx3)
    generalize w2.alloc (.cells #[.int .u64 xn, .int .u64 xt, .string (strOf xk), .slice ha L hc] 49) = w3 at *
    have m0 := cell_of_row _ _ 0 _ _ _ hI3
    have z0 := frozen_of_row _ _ 0 _ _ hI3
    have H3 := Lib.hid (And.intro hb3 (And.intro hI3 hR3))
    clear hb3 hI3 hR3 hx3 k1 k2 q0 q1 q2 q3 C HAT
    go_upto_region 7 with (refine wpList_cutB 31 49 (.tmp 35) (some (.const (.int .i64 1))) none 4 (is.length + 1) 1 (is.length + 1) c1 is.length (some ⟨B, o, none⟩) rfl rfl Tryz.underlying31 sizeItem rfl rfl hc1 ⟨_, 1, rfl, by decide, rfl⟩ rfl (by omega) (Nat.le_refl _) ?_; intro ad' c' hcut)
    have h4b := (setCell_block_far w3 ⟨bi, 0, none⟩ (.slice ad' is.length c') w2.heap.size (by show w2.heap.size ≠ bi; omega)).trans H3.out.1
    have h4r := (setCell_block_far w3 ⟨bi, 0, none⟩ (.slice ad' is.length c') w.heap.size (by have := hw.out; show w.heap.size ≠ bi; omega)).trans H3.out.2.2
    have h4g := setCell_blockJ 0 (.slice ad' is.length c') H3.out.2.1
    simp only [List.setIfInBounds_toArray, List.set_cons_zero] at h4g
    have hgr := grown3 (bg := bi) (r := w.heap.size) HX3.out (.slice ad' is.length c') #[.int .u64 xn, .int .u64 xt, .string (strOf xk), .slice ha L hc, .int .u64 0, .int .u64 0] (Nat.le_refl _)
    have HAT4 := Lib.hid (own_setJ HAT3.out H3.out.2.1 (by decide) 0 (.slice ad' is.length c'))
    generalize w3.setCell ⟨bi, 0, none⟩ (.slice ad' is.length c') = w4 at *
    have m0 := cell_of_row _ _ 0 _ _ _ h4b
    have m1 := cell_of_row _ _ 1 _ _ _ h4b
    have m2 := cell_of_row _ _ 2 _ _ _ h4b
    have m3 := cell_of_row _ _ 3 _ _ _ h4b
    have H4r := Lib.hid h4r
    have H4g := Lib.hid h4g
    have HGR := Lib.hid hgr
    clear h4b h4r h4g hgr hltg hlti z0 H3 HX3 HAT3
    go_wp2_with (refine wpList_store_whole 53 (.tmp 2) (.tmp 38) rfl rfl w.heap.size rfl #[.int .u64 xn, .int .u64 xt, .string (strOf xk), .slice ha L hc, .int .u64 0, .int .u64 0] rfl _ 53 H4r.out rfl sizeDel (by simp [Value.oneCell']) ?_)
    have hr := setRow_heap w4 w.heap.size _ #[.int .u64 xn, .int .u64 xt, .string (strOf xk), .slice ha L hc, .int .u64 0, .int .u64 0] 53 (0, 0) H4r.out
    have r0 := cell_of_row _ _ 0 _ _ _ hr
    have r1 := cell_of_row _ _ 1 _ _ _ hr
    have r2 := cell_of_row _ _ 2 _ _ _ hr
    have r3 := cell_of_row _ _ 3 _ _ _ hr
    have r4 := cell_of_row _ _ 4 _ _ _ hr
    have r5 := cell_of_row _ _ 5 _ _ _ hr
    have hbg := (setRow_other w4 w.heap.size bi #[.int .u64 xn, .int .u64 xt, .string (strOf xk), .slice ha L hc, .int .u64 0, .int .u64 0] (by have := hw.out; omega)).trans H4g.out
    have hat5 := own_rowJ HAT4.out H4r.out (by decide) #[.int .u64 xn, .int .u64 xt, .string (strOf xk), .slice ha L hc, .int .u64 0, .int .u64 0]
    refine bodyPost_ret (v := .agg #[.int .u64 xn, .int .u64 xt, .string (strOf xk), .slice ha L hc, .int .u64 0, .int .u64 0]) (by simp [results, Tryz.results54, go_sem, r0, r1, r2, r3, r4, r5]) rfl ⟨ha, hc, ?_, ?_, ?_, HGR.out⟩
    · simp only [dmC, DM.ofI, HLn.out]; rfl
    · show World.ownsRow _ _ _ _ _ _ _
      exact hat5
    generalize w4.setRow w.heap.size #[.int .u64 xn, .int .u64 xt, .string (strOf xk), .slice ha L hc, .int .u64 0, .int .u64 0] = w5 at *
    have hg := HGR.out
    obtain ⟨i2, i3⟩ := HI1.out
    obtain ⟨g1, g2, g3⟩ := HG1.out
    have hne := HNE.out
    refine ⟨⟨ad', c', hbg, tail_row imC 4 imC_len (row_away i2 i3 (.inl rfl) hg) hc1 hcut.out, (i3.keep (.inl rfl) hg).cut hcut.out.1⟩, ⟨a2, c2, (hg.block bg hw.out.1 (by intro e; cases e; exact hne rfl)).trans g1, row_away g2 g3 (.inl rfl) hg, g3.keep (.inl rfl) hg⟩, hne, fun y hy => HS.out y (List.mem_cons_of_mem _ hy), HO.out.1, HO.out.2.1, ?_⟩
    obtain ⟨o1, o2, o3⟩ := HO.out
    exact ⟨hg.os.trans o3.os, hg.tape.trans o3.tape, hg.output.trans o3.output, Nat.le_trans o3.size hg.size, fun k hk => (hg.block k (Nat.lt_of_lt_of_le hk o3.size) (by intro e; cases e; omega)).trans (o3.block k hk)⟩
end Go.Proofs.YtaklnpjpndkccaaGreat

namespace Go.Proofs.YtaklnpjpndkccaaGreat
open Go.RowKit

section
variable {P : Program}

/-- From m on each operation waits for all ahead of it, by way of others. -/
def chainOk (ops : Array Oper) (m : Nat) : Bool :=
  (List.range ops.size).all fun i => i < m || (List.range i).all fun j => (List.range (i + 1)).any fun k => decide (j < k) && waits ops k j

theorem chain_reach {ops : Array Oper} {m : Nat} (hc : chainOk ops m = true) {listed : Array Bool}
    (down : ∀ j, listed.getD j false = true → ∀ i, waits ops j i = true → listed.getD i false = true)
    {i : Nat} (hi : i < ops.size) (him : m ≤ i) (hd : ∀ j, waits ops i j = true → listed.getD j false = true) : ∀ j, j < i → listed.getD j false = true := by
  have h1 := List.all_eq_true.1 hc i (List.mem_range.2 hi)
  simp only [Bool.or_eq_true, decide_eq_true_eq] at h1
  have h2 := List.all_eq_true.1 (h1.resolve_left (by omega))
  have key : ∀ d j, i - j = d → j < i → listed.getD j false = true := by
    intro d
    induction d using Nat.strongRecOn with
    | _ d ih =>
      intro j hd' hj
      obtain ⟨k, hk, hk2⟩ := List.any_eq_true.1 (h2 j (List.mem_range.2 hj))
      simp only [Bool.and_eq_true, decide_eq_true_eq] at hk2
      have hki := List.mem_range.1 hk
      by_cases he : k = i
      · subst he; exact hd j hk2.2
      · exact down k (ih (i - k) (by omega) k rfl (by omega)) j hk2.2
  intro j hj
  exact key _ j rfl hj

/-- Behind the facts: the chain. -/
theorem chain_any {ops : Array Oper} {m : Nat} (hc : chainOk ops m = true) (hord : ∀ i o, ops[i]? = some o → ∀ e ∈ o.after, Region.binds .any e = true → e.on < i) {Q : Exit → Act → World → Prop} :
    ∀ (fuel i : Nat) (listed : Array Bool) (a : Act) (w : World), m ≤ i → i + fuel = ops.size → listed.size = ops.size →
      (∀ j, j < i → listed.getD j false = true) → (∀ j, i ≤ j → listed.getD j false = false) →
      (∀ j, listed.getD j false = true → ∀ i, waits ops j i = true → listed.getD i false = true) →
      wpList P ops Q (ops.toList.drop i) a w → wpAny P .any ops Q fuel listed a w := by
  intro fuel
  induction fuel with
  | zero =>
    intro i listed a w hmi hf hs hl hn hdn h
    have e : ops.toList.drop i = [] := List.drop_eq_nil_of_le (by simp; omega)
    rw [e] at h
    refine ⟨?_, h⟩
    cases hr : Region.ready .any ops listed with
    | nil => rfl
    | cons k ks =>
      have hm : k ∈ Region.ready .any ops listed := by rw [hr]; exact List.mem_cons_self
      obtain ⟨h0, o, ho, _⟩ := mem_ready.1 hm
      have hk : k < ops.size := (Array.getElem?_eq_some_iff.1 ho).1
      have h1 := hl k (by omega)
      have hk' : k < listed.size := by omega
      simp [hk'] at h0 h1
      rw [h0] at h1; cases h1
  | succ fuel ih =>
    intro i listed a w hmi hf hs hl hn hdn h
    have hi : i < ops.size := by omega
    have ho : ops[i]? = some ops[i] := by simp [hi]
    have hil' : i < listed.size := by omega
    have hready : i ∈ Region.ready .any ops listed := by
      refine mem_ready.2 ⟨?_, ops[i], ho, fun e he hb => hl _ (hord i _ ho e he hb)⟩
      have := hn i (Nat.le_refl _)
      simp [hil'] at this ⊢; exact this
    refine ⟨fun hr => absurd hready (by rw [hr]; exact List.not_mem_nil), fun k hk => ?_⟩
    obtain ⟨h0, o, hok, _⟩ := mem_ready.1 hk
    have hks : k < ops.size := (Array.getElem?_eq_some_iff.1 hok).1
    have hkl : k < listed.size := by omega
    have h0' : listed.getD k false = false := by simp [hkl] at h0 ⊢; exact h0
    have hik : i ≤ k := by
      rcases Nat.lt_or_ge k i with h' | h'
      · have := hl k h'; rw [h0'] at this; cases this
      · exact h'
    have hall := chain_reach hc hdn hks (by omega) (waits_of_ready hk)
    have hki : k = i := by
      rcases Nat.lt_or_ge i k with h' | h'
      · have := hall i h'; rw [hn i (Nat.le_refl _)] at this; cases this
      · omega
    subst hki
    have hdrop : ops.toList.drop k = ops[k] :: ops.toList.drop (k + 1) := by
      rw [List.drop_eq_getElem_cons (by simpa using hi)]; simp
    rw [hdrop] at h
    have next : ∀ a w, wpList P ops Q (ops.toList.drop (k + 1)) a w → wpAny P .any ops Q fuel (listed.setIfInBounds k true) a w := by
      intro a w h
      refine ih (k + 1) _ a w (by omega) (by omega) (by simpa using hs) (fun j hj => ?_) (fun j hj => ?_) (fun j hj x hx => ?_) h
      · by_cases e : k = j
        · subst e; simp [hil']
        · exact getD_set_true (hl j (by omega))
      · rw [getD_set_ne false (by omega)]; exact hn j (by omega)
      · by_cases e : k = j
        · subst e; exact getD_set_true (waits_of_ready hk x hx)
        · rw [getD_set_ne false e] at hj; exact getD_set_true (hdn j hj x hx)
    unfold wpOp
    rw [ho]
    simp only []
    simp only [wpList] at h
    split
    · rename_i hw
      rw [if_pos hw] at h
      exact h.imp (Oper.wp_mono next) id
    · rename_i hw
      rw [if_neg hw] at h
      exact next _ _ h

theorem region_chain {ops : Array Oper} {m : Nat} {F : Nat → Value → World → Prop} {a0 : Act} {w0 : World} {D : List (List (Nat × Tmp))} {E : List (Nat × Tmp)} {Q : Exit → Act → World → Prop}
    (hok : opsOk ops a0.tmps.size 0 (ops.toList.take m) D = true) (hms : m ≤ ops.size)
    (hE : ((E.all fun p => decide (p.1 < m) && dstOf ops p.1 == some p.2) && (List.range m).all fun j => match dstOf ops j with | some _ => E.any fun p => p.1 == j | none => true) = true)
    (hc : chainOk ops m = true) (hord : ∀ i o, ops[i]? = some o → ∀ e ∈ o.after, Region.binds .any e = true → e.on < i)
    (hst : ∀ i v w w', Ext w w' → F i v w → F i v w')
    (hob : Obs P ops F a0 w0 0 (ops.toList.take m) D)
    (hend : ∀ w, Ext w0 w → depsThen F w E a0 (fun a => wpList P ops Q (ops.toList.drop m) a w)) :
    ∀ (fuel : Nat) (listed : Array Bool) (a : Act) (w : World), listed.count false = fuel → (∀ j, m ≤ j → listed.getD j false = false) → Inv ops F a0 w0 listed a w → wpAny P .any ops Q fuel listed a w := by
  have hget : ∀ {i o}, i < m → ops[i]? = some o → (ops.toList.take m)[i]? = some o := fun {i o} hi h => by
    rw [List.getElem?_take, if_pos hi]; simpa using h
  have hall : ∀ {i o}, i < m → ops[i]? = some o → opOk ops a0.tmps.size i o (D.getD i []) = true := fun {i o} hi h => by
    have := opsOk_get hok i o (hget hi h); simpa using this
  have hobs : ∀ {i o}, i < m → ops[i]? = some o → Ob P ops F a0 w0 i o (D.getD i []) := fun {i o} hi h => by
    have := Obs_get hob i o (hget hi h); simpa using this
  -- all ahead of the chain are listed: the chain
  have fin : ∀ (fuel : Nat) (listed : Array Bool) (a : Act) (w : World), m + fuel = ops.size → (∀ j, j < m → listed.getD j false = true) → (∀ j, m ≤ j → listed.getD j false = false) → Inv ops F a0 w0 listed a w → wpAny P .any ops Q fuel listed a w := by
    intro fuel listed a w hf hl hno hI
    simp only [Bool.and_eq_true] at hE
    obtain ⟨c, hk, hc1, hc2, hc3⟩ := depsThen_at a _ E a0 hI.ts.symm (fun p hp => by
      have hd := List.all_eq_true.1 hE.1 p hp
      simp only [Bool.and_eq_true, decide_eq_true_eq, beq_iff_eq] at hd
      have := hI.fact p.1 (by omega) (hl p.1 hd.1)
      simp only [hd.2] at this
      exact this) (hend w hI.ext)
    have : c = a := by
      obtain ⟨ct, cd⟩ := c
      obtain ⟨at', ad⟩ := a
      have e2 : cd = ad := hc2.trans hI.df.symm
      have e1 : ct = at' := by
        apply Array.ext_getElem?
        intro s
        refine tmps_ext (a := ⟨ct, cd⟩) (b := ⟨at', ad⟩) hc1 ?_
        rw [hc3]
        split
        · rfl
        · rename_i hn
          refine (hI.old s fun j hj => ?_).symm
          rcases Nat.lt_or_ge j m with hjm | hjm
          · exfalso
            have h2 := List.all_eq_true.1 hE.2 j (List.mem_range.2 hjm)
            simp only [hj, List.any_eq_true, beq_iff_eq] at h2
            obtain ⟨p, hp, hpj⟩ := h2
            have hd := List.all_eq_true.1 hE.1 p hp
            simp only [Bool.and_eq_true, decide_eq_true_eq, beq_iff_eq] at hd
            have hd2 := hd.2
            rw [hpj, hj] at hd2
            exact hn ⟨p, hp, (Option.some.inj hd2).symm⟩
          · exact hno j hjm
      rw [e1, e2]
    rw [← this]
    exact chain_any hc hord fuel m listed c w (Nat.le_refl _) hf hI.size hl hno hI.down hk
  have hready_lt : ∀ (listed : Array Bool) (a : Act) (w : World), (∀ j, m ≤ j → listed.getD j false = false) → Inv ops F a0 w0 listed a w → (¬ ∀ j, j < m → listed.getD j false = true) → ∀ i ∈ Region.ready .any ops listed, i < m := by
    intro listed a w hno hI hnot i hi
    obtain ⟨_, o, ho, _⟩ := mem_ready.1 hi
    have his : i < ops.size := (Array.getElem?_eq_some_iff.1 ho).1
    rcases Nat.lt_or_ge i m with h' | h'
    · exact h'
    · exfalso
      have hr := chain_reach hc hI.down his h' (waits_of_ready hi)
      exact hnot fun j hj => hr j (by omega)
  have hcount : ∀ (listed : Array Bool), listed.size = ops.size → (∀ j, j < m → listed.getD j false = true) → (∀ j, m ≤ j → listed.getD j false = false) → m + listed.count false = ops.size := by
    intro listed hs hl hno
    have e : listed = (List.replicate m true ++ List.replicate (ops.size - m) false).toArray := by
      apply Array.ext
      · simp; omega
      · intro j h1 h2
        have hj : j < listed.size := h1
        rcases Nat.lt_or_ge j m with hjm | hjm
        · have := hl j hjm
          simp [hj] at this
          rw [this]
          simp [hjm]
        · have := hno j hjm
          simp [hj] at this
          rw [this]
          have : ¬ j < m := by omega
          simp [List.getElem_append, this]
    rw [e]
    simp [List.count_append, List.count_replicate]
    omega
  intro fuel
  induction fuel with
  | zero =>
    intro listed a w hc0 hno hI
    by_cases hl : ∀ j, j < m → listed.getD j false = true
    · exact fin 0 listed a w (by have := hcount listed hI.size hl hno; omega) hl hno hI
    · exfalso
      apply hl
      intro j hj
      have hj' : j < listed.size := by rw [hI.size]; omega
      have := Array.count_eq_zero.1 hc0
      have h2 : listed[j] ≠ false := fun e => this (e ▸ Array.getElem_mem hj')
      simp [hj']; simpa using h2
  | succ fuel ih =>
    intro listed a w hcn hno hI
    by_cases hl : ∀ j, j < m → listed.getD j false = true
    · exact fin (fuel + 1) listed a w (by have := hcount listed hI.size hl hno; omega) hl hno hI
    refine ⟨fun hr => ?_, fun i hi => ?_⟩
    · exfalso
      apply hl
      intro j
      induction j using Nat.strongRecOn with
      | _ j ihj =>
        intro hjm
        have hj : j < ops.size := by omega
        cases hlj : listed.getD j false with
        | true => rfl
        | false =>
          exfalso
          have ho : ops[j]? = some ops[j] := by simp [hj]
          have hmem : j ∈ Region.ready .any ops listed := by
            refine mem_ready.2 ⟨?_, ops[j], ho, fun e he hb => ?_⟩
            · have : j < listed.size := by rw [hI.size]; exact hj
              simp [this] at hlj ⊢; exact hlj
            · have := hord j _ ho e he hb
              exact ihj e.on this (by omega)
          rw [hr] at hmem
          cases hmem
    have him := hready_lt listed a w hno hI hl i hi
    obtain ⟨h0, o, ho, hafter⟩ := mem_ready.1 hi
    have hil : i < ops.size := (Array.getElem?_eq_some_iff.1 ho).1
    have hil' : i < listed.size := hI.size ▸ hil
    have h0' : listed.getD i false = false := by simp [hil'] at h0 ⊢; exact h0
    have hopk := hall him ho
    simp only [opOk, Bool.and_eq_true] at hopk
    obtain ⟨⟨⟨⟨hk1, hk2⟩, hk3⟩, hk4⟩, hk5⟩ := hopk
    have hdep2 : ∀ p ∈ D.getD i [], waits ops i p.1 = true ∧ dstOf ops p.1 = some p.2 := fun p hp => by
      have := List.all_eq_true.1 hk3 p hp
      simpa using this
    have hdeps : ∀ p ∈ D.getD i [], listed.getD p.1 false = true := fun p hp => waits_of_ready hi p.1 (hdep2 p hp).1
    have hsel : ∀ cs b, o.op ≠ .select cs b := by intro cs b e; rw [e] at hk2; cases hk2
    have hjlt : ∀ j, listed.getD j false = true → j < ops.size := fun j hj => by
      rcases Nat.lt_or_ge j listed.size with h' | h'
      · exact hI.size ▸ h'
      · simp [Array.getElem?_eq_none h'] at hj
    obtain ⟨c, hk, hc1, hc2, hc3⟩ := depsThen_at a _ (D.getD i []) a0 hI.ts.symm (fun p hp => by
      have := hI.fact p.1 (hjlt p.1 (hdeps p hp)) (hdeps p hp)
      simp only [(hdep2 p hp).2] at this
      exact this) (hobs him ho w hI.ext)
    have same : ∀ s ∈ o.looksAt ops, c.tmps[s]? = a.tmps[s]? := by
      intro s hs
      refine tmps_ext hc1 ?_
      rw [hc3]
      split
      · rfl
      · rename_i hn
        refine (hI.old s fun j hj => ?_).symm
        have hjl : j < ops.size := by
          unfold dstOf at hj
          rcases Nat.lt_or_ge j ops.size with h' | h'
          · exact h'
          · rw [Array.getElem?_eq_none h'] at hj; cases hj
        have h1 := List.all_eq_true.1 (List.all_eq_true.1 hk5 s hs) j (List.mem_range.2 hjl)
        simp only [Bool.or_eq_true, bne_iff_ne, ne_eq, beq_iff_eq] at h1
        rcases h1 with ((h1 | h1) | h1) | h1
        · exact absurd hj h1
        · exfalso
          rw [List.any_eq_true] at h1
          obtain ⟨p, hp, hpj⟩ := h1
          have hd := (hdep2 p hp).2
          rw [eq_of_beq hpj, hj] at hd
          exact hn ⟨p, hp, (Option.some.inj hd).symm⟩
        · rw [h1]; exact h0'
        · cases hlj : listed.getD j false with
          | false => rfl
          | true => have := hI.down j hlj i h1; rw [h0'] at this; cases this
    have heval : execOp c.eval o = execOp a.eval o := execOp_congr o hsel fun x hx => by
      cases x with
      | tmp t =>
        have := same t (List.mem_append_left _ (List.mem_filterMap.2 ⟨.tmp t, by simpa using hx, rfl⟩))
        simp [Act.eval, this]
      | _ => rfl
    have hwant : Region.wanted o (yielded ops c.tmps) = Region.wanted o (yielded ops a.tmps) := by
      unfold Region.wanted
      cases hg : o.guard with
      | none => rfl
      | some gw =>
        obtain ⟨g, want⟩ := gw
        have hy : yielded ops c.tmps g = yielded ops a.tmps g := by
          unfold yielded
          cases ht : (ops[g]?).bind (·.dst) with
          | none => rfl
          | some t =>
            have := same t (by simp [Oper.looksAt, hg, ht])
            simp [this]
        simp only [hy]
    have next : ∀ v w', Ext w w' → F i (match o.dst with | some d => (c.put o.dst v).tmps.getD d undef | none => undef) w' →
        wpAny P .any ops Q fuel (listed.setIfInBounds i true) (a.put o.dst v) w' := by
      intro v w' hx hF
      have hdst : dstOf ops i = o.dst := by simp [dstOf, ho]
      refine ih _ _ _ ?_ ?_ ⟨by simpa using hI.size, by rw [put_size]; exact hI.ts, by rw [put_defers]; exact hI.df, ?_, ?_, ?_, hI.ext.trans hx⟩
      · have hset : listed.setIfInBounds i true = listed.set i true hil' := by simp [Array.setIfInBounds, hil']
        rw [hset, Array.count_set]
        have : listed[i] = false := by simpa [hil'] using h0'
        simp [this]; omega
      · intro j hj
        rw [getD_set_ne false (by omega)]; exact hno j hj
      · intro s hs
        have hne : o.dst ≠ some s := fun e => by
          have := hs i (hdst.trans e)
          simp [hil'] at this
        rw [put_getD_ne _ hne]
        refine hI.old s fun j hj => ?_
        by_cases hji : i = j
        · rw [← hji]; exact h0'
        · have := hs j hj
          rwa [getD_set_ne false hji] at this
      · intro j hj hlj
        by_cases hji : i = j
        · subst hji
          rw [hdst]
          cases hd : o.dst with
          | none => simp only [hd] at hF; exact hF
          | some d =>
            simp only [hd] at hF hk1
            simp only [Bool.and_eq_true, decide_eq_true_eq] at hk1
            rw [put_getD_eq _ (by rw [hc1, hI.ts]; exact hk1.1)] at hF
            show F i ((a.put (some d) v).tmps.getD d undef) w'
            rw [put_getD_eq _ (by rw [hI.ts]; exact hk1.1)]
            exact hF
        · rw [getD_set_ne false hji] at hlj
          have hfj := hst _ _ _ _ hx (hI.fact j hj hlj)
          cases hdj : dstOf ops j with
          | none => simp only [hdj] at hfj; exact hfj
          | some d =>
            simp only [hdj] at hfj
            have hne : o.dst ≠ some d := fun e => by
              rw [e] at hk1
              simp only [Bool.and_eq_true] at hk1
              have := List.all_eq_true.1 hk1.2 j (List.mem_range.2 hj)
              simp [hdj, Ne.symm hji] at this
            show F j ((a.put o.dst v).tmps.getD d undef) w'
            rw [put_getD_ne _ hne]
            exact hfj
      · intro j hlj k hw
        by_cases hji : i = j
        · subst hji; exact getD_set_true (waits_of_ready hi k hw)
        · rw [getD_set_ne false hji] at hlj
          exact getD_set_true (hI.down j hlj k hw)
    unfold wpOp
    rw [ho]
    simp only []
    rw [← hwant]
    simp only [wpList] at hk
    split
    · rename_i hw
      rw [if_pos hw] at hk
      rcases hk with hk | ⟨_, x, y, hxy⟩
      · refine .inl ?_
        unfold Oper.wp at hk ⊢
        rw [heval] at hk
        generalize (execOp a.eval o).run P w = r at *
        cases r with
        | ok n w' =>
          cases n <;> simp only [Oper.upon] at hk ⊢
          case value u => exact next u w' hk.2.1 hk.2.2.2
          case skip => exact next undef w' hk.2.1 hk.2.2.2
          case defer d =>
            have := hk.2.2.1
            rw [put_defers] at this
            exact absurd this (by simp)
          case enter f args =>
            refine Calls.mono hk fun e w'' he => ?_
            cases e with
            | returned u => exact next u w'' he.2.1 he.2.2.2
            | panicked c => exact absurd he.1 (by simp)
            | outgrown => obtain ⟨_, _, h⟩ := he; exact absurd h.1 (by simp)
          case row row args => exact Rows.mono hk fun u w'' he => next u w'' he.2.1 he.2.2.2
        | halt x w' =>
          cases x <;> simp only [Oper.upon] at hk ⊢
          case panic u => exact absurd hk.1 (by simp)
      · exact absurd hxy.1 (by simp)
    · rename_i hw
      rw [if_neg hw] at hk
      exact next undef w hk.2.1 hk.2.2.2

def ordOk (ops : Array Oper) : Bool := (List.range ops.size).all fun i => match ops[i]? with | some o => o.after.all fun e => !Region.binds .any e || e.on < i | none => true

/-- A REGION THAT DRAWS ITS ORDER AND ENDS IN A CHAIN: the first m operations by facts, the others as they stand. -/
theorem wp_region_chain {id : Nat} {l : List Oper} (m : Nat) (Fs : List Fact) (D : List (List (Nat × Tmp))) (E : List (Nat × Tmp)) {a0 : Act} {w0 : World} {Q : Exit → Act → World → Prop}
    (hm : P.follows .mixedOrders = true)
    (hok : (opsOk l.toArray a0.tmps.size 0 (l.take m) D && decide (m ≤ l.length) && ((E.all fun p => decide (p.1 < m) && dstOf l.toArray p.1 == some p.2) && (List.range m).all fun j => match dstOf l.toArray j with | some _ => E.any fun p => p.1 == j | none => true) && chainOk l.toArray m && ordOk l.toArray) = true)
    (hob : Obs P l.toArray (factAt Fs) a0 w0 0 (l.take m) D)
    (hend : ∀ w, Ext w0 w → depsThen (factAt Fs) w E a0 (fun a => wpList P l.toArray Q (l.drop m) a w)) :
    (Code.region id l.toArray true).wp P Q a0 w0 := by
  simp only [Bool.and_eq_true] at hok
  obtain ⟨⟨⟨⟨k1, k2⟩, k3⟩, k4⟩, k5⟩ := hok
  have hno : ∀ j, (Array.replicate l.toArray.size false).getD j false = false := fun j => by
    simp only [Array.getD_eq_getD_getElem?, Array.getElem?_replicate]; split <;> rfl
  refine wp_region_any hm (region_chain (m := m) (F := factAt Fs) (D := D) (E := E) (w0 := w0) k1 (by simpa using k2) (by simp only [Bool.and_eq_true]; exact k3) k4 ?_ (fun i v w w' hx h => (Fs.getD i Fact.any).st v w w' hx h) hob hend _ _ _ _ ?_ (fun j _ => hno j) ?_)
  · intro i o ho e he hb
    have hi : i < l.toArray.size := (Array.getElem?_eq_some_iff.1 ho).1
    have h1 := List.all_eq_true.1 k5 i (List.mem_range.2 hi)
    simp only [ho] at h1
    have h2 := (Array.all_eq_true_iff_forall_mem.1 h1) e he
    simpa [hb] using h2
  · simp
  · exact ⟨by simp, rfl, rfl, fun _ _ => rfl, fun j _ h => (by rw [hno] at h; cases h), fun j h => (by rw [hno] at h; cases h), (Ext.refl w0).drew⟩

end
end Go.Proofs.YtaklnpjpndkccaaGreat
