/- The law's small makers N, S, E, A; what literals hold; awake. -/
import Derived.Test.YtkefppdacigbmaaS9
import Derived.Test.YtkefppdacigbmaaA7
namespace Go.Proofs.Ytkefppdacigbmaa
open Go.RowKit Go.Sort

theorem set_lit (w : World) (l : List V) (hm : l.length ≤ maxLen) : SetR (w.alloc (.cells (l.flatMap vC).toArray 28)) (.slice (some ⟨w.heap.size, 0, none⟩) l.length l.length) l :=
  Row.of_own (World.ownsRow_lit (base := w.heap.size) (e := 28) (size := 4) w (l.flatMap vC).toArray l.length (Nat.le_refl _) hm (by simp only [List.size_toArray]; exact flat_len vC 4 vC_len l))
theorem pred_lit (w : World) (us : List CS) (hm : us.length ≤ maxLen) (hs : ∀ x ∈ us, SetR w x.h x.c.set) : PredR (w.alloc (.cells (us.flatMap csC).toArray 31)) (.slice (some ⟨w.heap.size, 0, none⟩) us.length us.length) (us.map CS.c) :=
  PredR.mk us (Row.of_own (World.ownsRow_lit (base := w.heap.size) (e := 31) (size := 7) w (us.flatMap csC).toArray us.length (Nat.le_refl _) hm (by simp only [List.size_toArray]; exact flat_len csC 7 csC_len us))) fun x hx => (hs x hx).ext ((Ext.refl w).alloc _)
theorem attr_lit (w : World) (l : List (List UInt8 × V)) (hm : l.length ≤ maxLen) : AttrR (w.alloc (.cells (l.flatMap aC).toArray 52)) (.slice (some ⟨w.heap.size, 0, none⟩) l.length l.length) l :=
  Row.of_own (World.ownsRow_lit (base := w.heap.size) (e := 52) (size := 5) w (l.flatMap aC).toArray l.length (Nat.le_refl _) hm (by simp only [List.size_toArray]; exact flat_len aC 5 aC_len l))

set_option maxRecDepth 100000 in
theorem lawN_any (w : World) (n : Int) : Calls Try.prog 26 #[.int .i64 n] w fun e w' => e = .returned (.agg #[.int .i64 1, .int .i64 n, .string ⟨#[]⟩, .bool false]) ∧ Ext w w' := by
  go_enter Try.func26, Try.ntmps26
  go_wp2
  have hR := heap_alloc_new w (.cells #[.int .i64 1, .int .i64 n, .string ⟨#[]⟩, .bool false] 28)
  have r0 := cell_of_row _ _ 0 _ _ _ hR
  have r1 := cell_of_row _ _ 1 _ _ _ hR
  have r2 := cell_of_row _ _ 2 _ _ _ hR
  have r3 := cell_of_row _ _ 3 _ _ _ hR
  refine bodyPost_ret (v := .agg #[.int .i64 1, .int .i64 n, .string ⟨#[]⟩, .bool false]) (by simp [results, Try.results26, go_sem, r0, r1, r2, r3]) rfl ⟨rfl, (Ext.refl w).alloc _⟩
set_option maxRecDepth 100000 in
theorem lawS_any (w : World) (s : ByteArray) : Calls Try.prog 27 #[.string s] w fun e w' => e = .returned (.agg #[.int .i64 2, .int .i64 0, .string s, .bool false]) ∧ Ext w w' := by
  go_enter Try.func27, Try.ntmps27
  go_wp2
  have hR := heap_alloc_new w (.cells #[.int .i64 2, .int .i64 0, .string s, .bool false] 28)
  have r0 := cell_of_row _ _ 0 _ _ _ hR
  have r1 := cell_of_row _ _ 1 _ _ _ hR
  have r2 := cell_of_row _ _ 2 _ _ _ hR
  have r3 := cell_of_row _ _ 3 _ _ _ hR
  refine bodyPost_ret (v := .agg #[.int .i64 2, .int .i64 0, .string s, .bool false]) (by simp [results, Try.results27, go_sem, r0, r1, r2, r3]) rfl ⟨rfl, (Ext.refl w).alloc _⟩
set_option maxRecDepth 100000 in
theorem lawE_any (w : World) (a : Option Addr) (n c : Nat) : Calls Try.prog 28 #[.slice a n c] w fun e w' => e = .returned (.agg #[.string ⟨#[]⟩, .slice a n c]) ∧ Ext w w' := by
  go_enter Try.func28, Try.ntmps28
  go_wp2
  have hR := heap_alloc_new w (.cells #[.string ⟨#[]⟩, .slice a n c] 26)
  have r0 := cell_of_row _ _ 0 _ _ _ hR
  have r1 := cell_of_row _ _ 1 _ _ _ hR
  refine bodyPost_ret (v := .agg #[.string ⟨#[]⟩, .slice a n c]) (by simp [results, Try.results28, go_sem, r0, r1]) rfl ⟨rfl, (Ext.refl w).alloc _⟩
set_option maxRecDepth 100000 in
theorem lawA_any (w : World) (s t : ByteArray) (k n : Int) (b : Bool) : Calls Try.prog 29 #[.string s, .agg #[.int .i64 k, .int .i64 n, .string t, .bool b]] w fun e w' => e = .returned (.agg #[.string s, .int .i64 k, .int .i64 n, .string t, .bool b]) ∧ Ext w w' := by
  go_enter Try.func29, Try.ntmps29
  go_wp2
  have hR := heap_alloc_new (w.alloc (.cells #[.int .i64 k, .int .i64 n, .string t, .bool b] 28)) (.cells #[.string s, .int .i64 k, .int .i64 n, .string t, .bool b] 52)
  rw [World.size_alloc] at hR
  have r0 := cell_of_row _ _ 0 _ _ _ hR
  have r1 := cell_of_row _ _ 1 _ _ _ hR
  have r2 := cell_of_row _ _ 2 _ _ _ hR
  have r3 := cell_of_row _ _ 3 _ _ _ hR
  have r4 := cell_of_row _ _ 4 _ _ _ hR
  refine bodyPost_ret (v := .agg #[.string s, .int .i64 k, .int .i64 n, .string t, .bool b]) (by simp [results, Try.results29, go_sem, r0, r1, r2, r3, r4]) rfl ⟨rfl, ((Ext.refl w).alloc _).alloc _⟩

/-! awake -/
def vN1 (n : Int) : V := ⟨1, n, [], false⟩
def aP : List C := [⟨[97], 7, vN1 5, []⟩, ⟨[97], 4, vN1 9, []⟩]
def aQ : List C := [⟨[98], 1, ⟨0, 0, [], false⟩, []⟩, ⟨[97], 9, ⟨0, 0, [], false⟩, [vN1 2, vN1 1, vN1 2]⟩, ⟨[98], 1, ⟨0, 0, [], false⟩, []⟩]
def aR : List C := [⟨[97], 9, ⟨0, 0, [], false⟩, [vN1 1, vN1 2]⟩, ⟨[98], 1, ⟨0, 0, [], false⟩, []⟩]
theorem aQ_may : mayP aQ = true := by kernel_rfl
theorem aQ_norm : normP aQ = aR := by kernel_rfl
theorem aR_same : decide (cmpP (normP aQ) aR = 0) = true := by kernel_rfl
theorem aP1 : matchP aP [([97], vN1 5)] = true := by kernel_rfl
theorem aP2 : matchP aP [([97], vN1 9)] = false := by kernel_rfl
theorem aP3 : matchP aP [([97], ⟨2, 0, [53], false⟩)] = false := by kernel_rfl
theorem aP4 : matchP aP [] = false := by kernel_rfl

set_option maxRecDepth 100000 in
set_option maxHeartbeats 8000000 in
theorem awake_any (w : World) : Calls Try.prog 15 #[] w fun e w' => e = .returned (.bool true) ∧ Ext w w' := by
  go_enter Try.func15, Try.ntmps15
  have hw := Ext.refl w
  go_wp2_with fail
  refine (lawN_any _ 5).mono ?_
  rintro e w1 ⟨rfl, hx1⟩
  have hw := hw.trans hx1
  clear hx1
  go_wp2_with fail
  refine (lawN_any _ 9).mono ?_
  rintro e w2 ⟨rfl, hx2⟩
  have hw := hw.trans hx2
  clear hx2
  have hP : PredR (w2.alloc (.cells #[.string ⟨#[97]⟩, .int .i64 7, .int .i64 1, .int .i64 5, .string ⟨#[]⟩, .bool false, .slice none 0 0, .string ⟨#[97]⟩, .int .i64 4, .int .i64 1, .int .i64 9, .string ⟨#[]⟩, .bool false, .slice none 0 0] 31)) (.slice (some ⟨w2.heap.size, 0, none⟩) 2 2) aP := pred_lit w2 [⟨⟨[97], 7, vN1 5, []⟩, .slice none 0 0⟩, ⟨⟨[97], 4, vN1 9, []⟩, .slice none 0 0⟩] (by show (2 : Nat) ≤ maxLen; decide) (List.forall_mem_cons.2 ⟨SetR.nil _, (List.forall_mem_cons.2 ⟨SetR.nil _, (fun _ h => (by cases h))⟩)⟩)
  have hx3 : Ext w2 (w2.alloc (.cells #[.string ⟨#[97]⟩, .int .i64 7, .int .i64 1, .int .i64 5, .string ⟨#[]⟩, .bool false, .slice none 0 0, .string ⟨#[97]⟩, .int .i64 4, .int .i64 1, .int .i64 9, .string ⟨#[]⟩, .bool false, .slice none 0 0] 31)) := (Ext.refl w2).alloc _
  have hw := hw.trans hx3
  clear hx3
  go_wp2_with fail
  generalize w2.heap.size = b3 at *
  generalize w2.alloc (.cells #[.string ⟨#[97]⟩, .int .i64 7, .int .i64 1, .int .i64 5, .string ⟨#[]⟩, .bool false, .slice none 0 0, .string ⟨#[97]⟩, .int .i64 4, .int .i64 1, .int .i64 9, .string ⟨#[]⟩, .bool false, .slice none 0 0] 31) = w3 at *
  go_wp2_with fail
  refine (lawN_any _ 2).mono ?_
  rintro e w4 ⟨rfl, hx4⟩
  have hw := hw.trans hx4
  have hP := hP.ext hx4
  clear hx4
  go_wp2_with fail
  refine (lawN_any _ 1).mono ?_
  rintro e w5 ⟨rfl, hx5⟩
  have hw := hw.trans hx5
  have hP := hP.ext hx5
  clear hx5
  go_wp2_with fail
  refine (lawN_any _ 2).mono ?_
  rintro e w6 ⟨rfl, hx6⟩
  have hw := hw.trans hx6
  have hP := hP.ext hx6
  clear hx6
  have hS : SetR (w6.alloc (.cells #[.int .i64 1, .int .i64 2, .string ⟨#[]⟩, .bool false, .int .i64 1, .int .i64 1, .string ⟨#[]⟩, .bool false, .int .i64 1, .int .i64 2, .string ⟨#[]⟩, .bool false] 28)) (.slice (some ⟨w6.heap.size, 0, none⟩) 3 3) [vN1 2, vN1 1, vN1 2] := set_lit w6 [vN1 2, vN1 1, vN1 2] (by decide)
  have hQ : PredR ((w6.alloc (.cells #[.int .i64 1, .int .i64 2, .string ⟨#[]⟩, .bool false, .int .i64 1, .int .i64 1, .string ⟨#[]⟩, .bool false, .int .i64 1, .int .i64 2, .string ⟨#[]⟩, .bool false] 28)).alloc (.cells #[.string ⟨#[98]⟩, .int .i64 1, .int .i64 0, .int .i64 0, .string ⟨#[]⟩, .bool false, .slice none 0 0, .string ⟨#[97]⟩, .int .i64 9, .int .i64 0, .int .i64 0, .string ⟨#[]⟩, .bool false, .slice (some ⟨w6.heap.size, 0, none⟩) 3 3, .string ⟨#[98]⟩, .int .i64 1, .int .i64 0, .int .i64 0, .string ⟨#[]⟩, .bool false, .slice none 0 0] 31)) (.slice (some ⟨w6.heap.size + 1, 0, none⟩) 3 3) aQ := by
    have h := pred_lit (w6.alloc (.cells #[.int .i64 1, .int .i64 2, .string ⟨#[]⟩, .bool false, .int .i64 1, .int .i64 1, .string ⟨#[]⟩, .bool false, .int .i64 1, .int .i64 2, .string ⟨#[]⟩, .bool false] 28)) [⟨⟨[98], 1, ⟨0, 0, [], false⟩, []⟩, .slice none 0 0⟩, ⟨⟨[97], 9, ⟨0, 0, [], false⟩, [vN1 2, vN1 1, vN1 2]⟩, .slice (some ⟨w6.heap.size, 0, none⟩) 3 3⟩, ⟨⟨[98], 1, ⟨0, 0, [], false⟩, []⟩, .slice none 0 0⟩] (by show (3 : Nat) ≤ maxLen; decide) (List.forall_mem_cons.2 ⟨SetR.nil _, (List.forall_mem_cons.2 ⟨hS, (List.forall_mem_cons.2 ⟨SetR.nil _, (fun _ h => (by cases h))⟩)⟩)⟩)
    rw [World.size_alloc] at h
    exact h
  have hx7 : Ext w6 ((w6.alloc (.cells #[.int .i64 1, .int .i64 2, .string ⟨#[]⟩, .bool false, .int .i64 1, .int .i64 1, .string ⟨#[]⟩, .bool false, .int .i64 1, .int .i64 2, .string ⟨#[]⟩, .bool false] 28)).alloc (.cells #[.string ⟨#[98]⟩, .int .i64 1, .int .i64 0, .int .i64 0, .string ⟨#[]⟩, .bool false, .slice none 0 0, .string ⟨#[97]⟩, .int .i64 9, .int .i64 0, .int .i64 0, .string ⟨#[]⟩, .bool false, .slice (some ⟨w6.heap.size, 0, none⟩) 3 3, .string ⟨#[98]⟩, .int .i64 1, .int .i64 0, .int .i64 0, .string ⟨#[]⟩, .bool false, .slice none 0 0] 31)) := ((Ext.refl w6).alloc _).alloc _
  have hw := hw.trans hx7
  have hP := hP.ext hx7
  clear hx7
  clear hS
  go_wp2_with fail
  generalize (w6.alloc (.cells #[.int .i64 1, .int .i64 2, .string ⟨#[]⟩, .bool false, .int .i64 1, .int .i64 1, .string ⟨#[]⟩, .bool false, .int .i64 1, .int .i64 2, .string ⟨#[]⟩, .bool false] 28)).alloc (.cells #[.string ⟨#[98]⟩, .int .i64 1, .int .i64 0, .int .i64 0, .string ⟨#[]⟩, .bool false, .slice none 0 0, .string ⟨#[97]⟩, .int .i64 9, .int .i64 0, .int .i64 0, .string ⟨#[]⟩, .bool false, .slice (some ⟨w6.heap.size, 0, none⟩) 3 3, .string ⟨#[98]⟩, .int .i64 1, .int .i64 0, .int .i64 0, .string ⟨#[]⟩, .bool false, .slice none 0 0] 31) = w7 at *
  generalize w6.heap.size + 1 = b7 at *
  generalize w6.heap.size = bs7 at *
  refine (normal_yes _ _ aQ hQ aQ_may).mono ?_
  rintro e w8 ⟨vR, us, rfl, hu, ho, hs, hx8⟩
  have hR : PredR w8 vR (normP aQ) := by rw [← hu]; exact PredR.mk us (Row.of_own ho) (fun x hx => (hs x hx).set)
  clear hu ho hs hQ
  have hw := hw.trans hx8
  have hP := hP.ext hx8
  clear hx8
  go_wp2_with fail
  refine (lawN_any _ 5).mono ?_
  rintro e w9 ⟨rfl, hx9⟩
  have hw := hw.trans hx9
  have hP := hP.ext hx9
  have hR := hR.ext hx9
  clear hx9
  go_wp2_with fail
  refine (lawA_any _ _ _ _ _ _).mono ?_
  rintro e w10 ⟨rfl, hx10⟩
  have hw := hw.trans hx10
  have hP := hP.ext hx10
  have hR := hR.ext hx10
  clear hx10
  have hA : AttrR (w10.alloc (.cells #[.string ⟨#[97]⟩, .int .i64 1, .int .i64 5, .string ⟨#[]⟩, .bool false] 52)) (.slice (some ⟨w10.heap.size, 0, none⟩) 1 1) [([97], vN1 5)] := attr_lit w10 [([97], vN1 5)] (by decide)
  have hx11 : Ext w10 (w10.alloc (.cells #[.string ⟨#[97]⟩, .int .i64 1, .int .i64 5, .string ⟨#[]⟩, .bool false] 52)) := (Ext.refl w10).alloc _
  have hw := hw.trans hx11
  have hP := hP.ext hx11
  have hR := hR.ext hx11
  clear hx11
  go_wp2_with fail
  generalize w10.heap.size = b11 at *
  generalize w10.alloc (.cells #[.string ⟨#[97]⟩, .int .i64 1, .int .i64 5, .string ⟨#[]⟩, .bool false] 52) = w11 at *
  go_wp2_with fail
  refine (lawE_any _ _ _ _).mono ?_
  rintro e w12 ⟨rfl, hx12⟩
  have hw := hw.trans hx12
  have hP := hP.ext hx12
  have hR := hR.ext hx12
  have hA := hA.ext hx12
  clear hx12
  have hm := matches_any w12 _ aP [] _ _ hP hA
  rw [aP1] at hm
  clear hA
  go_wp2_with fail
  refine (hm).mono ?_
  rintro e w13 ⟨rfl, hx13⟩
  have hw := hw.trans hx13
  have hP := hP.ext hx13
  have hR := hR.ext hx13
  clear hx13
  clear hm
  go_wp2_with fail
  refine (lawN_any _ 9).mono ?_
  rintro e w14 ⟨rfl, hx14⟩
  have hw := hw.trans hx14
  have hP := hP.ext hx14
  have hR := hR.ext hx14
  clear hx14
  go_wp2_with fail
  refine (lawA_any _ _ _ _ _ _).mono ?_
  rintro e w15 ⟨rfl, hx15⟩
  have hw := hw.trans hx15
  have hP := hP.ext hx15
  have hR := hR.ext hx15
  clear hx15
  have hA : AttrR (w15.alloc (.cells #[.string ⟨#[97]⟩, .int .i64 1, .int .i64 9, .string ⟨#[]⟩, .bool false] 52)) (.slice (some ⟨w15.heap.size, 0, none⟩) 1 1) [([97], vN1 9)] := attr_lit w15 [([97], vN1 9)] (by decide)
  have hx16 : Ext w15 (w15.alloc (.cells #[.string ⟨#[97]⟩, .int .i64 1, .int .i64 9, .string ⟨#[]⟩, .bool false] 52)) := (Ext.refl w15).alloc _
  have hw := hw.trans hx16
  have hP := hP.ext hx16
  have hR := hR.ext hx16
  clear hx16
  go_wp2_with fail
  generalize w15.heap.size = b16 at *
  generalize w15.alloc (.cells #[.string ⟨#[97]⟩, .int .i64 1, .int .i64 9, .string ⟨#[]⟩, .bool false] 52) = w16 at *
  go_wp2_with fail
  refine (lawE_any _ _ _ _).mono ?_
  rintro e w17 ⟨rfl, hx17⟩
  have hw := hw.trans hx17
  have hP := hP.ext hx17
  have hR := hR.ext hx17
  have hA := hA.ext hx17
  clear hx17
  have hm := matches_any w17 _ aP [] _ _ hP hA
  rw [aP2] at hm
  clear hA
  go_wp2_with fail
  refine (hm).mono ?_
  rintro e w18 ⟨rfl, hx18⟩
  have hw := hw.trans hx18
  have hP := hP.ext hx18
  have hR := hR.ext hx18
  clear hx18
  clear hm
  go_wp2_with fail
  refine (lawS_any _ _).mono ?_
  rintro e w19 ⟨rfl, hx19⟩
  have hw := hw.trans hx19
  have hP := hP.ext hx19
  have hR := hR.ext hx19
  clear hx19
  go_wp2_with fail
  refine (lawA_any _ _ _ _ _ _).mono ?_
  rintro e w20 ⟨rfl, hx20⟩
  have hw := hw.trans hx20
  have hP := hP.ext hx20
  have hR := hR.ext hx20
  clear hx20
  have hA : AttrR (w20.alloc (.cells #[.string ⟨#[97]⟩, .int .i64 2, .int .i64 0, .string ⟨#[53]⟩, .bool false] 52)) (.slice (some ⟨w20.heap.size, 0, none⟩) 1 1) [([97], ⟨2, 0, [53], false⟩)] := attr_lit w20 [([97], ⟨2, 0, [53], false⟩)] (by decide)
  have hx21 : Ext w20 (w20.alloc (.cells #[.string ⟨#[97]⟩, .int .i64 2, .int .i64 0, .string ⟨#[53]⟩, .bool false] 52)) := (Ext.refl w20).alloc _
  have hw := hw.trans hx21
  have hP := hP.ext hx21
  have hR := hR.ext hx21
  clear hx21
  go_wp2_with fail
  generalize w20.heap.size = b21 at *
  generalize w20.alloc (.cells #[.string ⟨#[97]⟩, .int .i64 2, .int .i64 0, .string ⟨#[53]⟩, .bool false] 52) = w21 at *
  go_wp2_with fail
  refine (lawE_any _ _ _ _).mono ?_
  rintro e w22 ⟨rfl, hx22⟩
  have hw := hw.trans hx22
  have hP := hP.ext hx22
  have hR := hR.ext hx22
  have hA := hA.ext hx22
  clear hx22
  have hm := matches_any w22 _ aP [] _ _ hP hA
  rw [aP3] at hm
  clear hA
  go_wp2_with fail
  refine (hm).mono ?_
  rintro e w23 ⟨rfl, hx23⟩
  have hw := hw.trans hx23
  have hP := hP.ext hx23
  have hR := hR.ext hx23
  clear hx23
  clear hm
  go_wp2_with fail
  refine (lawE_any _ _ _ _).mono ?_
  rintro e w24 ⟨rfl, hx24⟩
  have hw := hw.trans hx24
  have hP := hP.ext hx24
  have hR := hR.ext hx24
  clear hx24
  have hm := matches_any w24 _ aP [] _ _ hP (AttrR.nil w24)
  rw [aP4] at hm
  go_wp2_with fail
  refine (hm).mono ?_
  rintro e w25 ⟨rfl, hx25⟩
  have hw := hw.trans hx25
  have hP := hP.ext hx25
  have hR := hR.ext hx25
  clear hx25
  clear hm
  go_wp2_with fail
  refine (lawN_any _ 1).mono ?_
  rintro e w26 ⟨rfl, hx26⟩
  have hw := hw.trans hx26
  have hP := hP.ext hx26
  have hR := hR.ext hx26
  clear hx26
  go_wp2_with fail
  refine (lawN_any _ 2).mono ?_
  rintro e w27 ⟨rfl, hx27⟩
  have hw := hw.trans hx27
  have hP := hP.ext hx27
  have hR := hR.ext hx27
  clear hx27
  have hS : SetR (w27.alloc (.cells #[.int .i64 1, .int .i64 1, .string ⟨#[]⟩, .bool false, .int .i64 1, .int .i64 2, .string ⟨#[]⟩, .bool false] 28)) (.slice (some ⟨w27.heap.size, 0, none⟩) 2 2) [vN1 1, vN1 2] := set_lit w27 [vN1 1, vN1 2] (by decide)
  have hQ : PredR ((w27.alloc (.cells #[.int .i64 1, .int .i64 1, .string ⟨#[]⟩, .bool false, .int .i64 1, .int .i64 2, .string ⟨#[]⟩, .bool false] 28)).alloc (.cells #[.string ⟨#[97]⟩, .int .i64 9, .int .i64 0, .int .i64 0, .string ⟨#[]⟩, .bool false, .slice (some ⟨w27.heap.size, 0, none⟩) 2 2, .string ⟨#[98]⟩, .int .i64 1, .int .i64 0, .int .i64 0, .string ⟨#[]⟩, .bool false, .slice none 0 0] 31)) (.slice (some ⟨w27.heap.size + 1, 0, none⟩) 2 2) aR := by
    have h := pred_lit (w27.alloc (.cells #[.int .i64 1, .int .i64 1, .string ⟨#[]⟩, .bool false, .int .i64 1, .int .i64 2, .string ⟨#[]⟩, .bool false] 28)) [⟨⟨[97], 9, ⟨0, 0, [], false⟩, [vN1 1, vN1 2]⟩, .slice (some ⟨w27.heap.size, 0, none⟩) 2 2⟩, ⟨⟨[98], 1, ⟨0, 0, [], false⟩, []⟩, .slice none 0 0⟩] (by show (2 : Nat) ≤ maxLen; decide) (List.forall_mem_cons.2 ⟨hS, (List.forall_mem_cons.2 ⟨SetR.nil _, (fun _ h => (by cases h))⟩)⟩)
    rw [World.size_alloc] at h
    exact h
  have hx28 : Ext w27 ((w27.alloc (.cells #[.int .i64 1, .int .i64 1, .string ⟨#[]⟩, .bool false, .int .i64 1, .int .i64 2, .string ⟨#[]⟩, .bool false] 28)).alloc (.cells #[.string ⟨#[97]⟩, .int .i64 9, .int .i64 0, .int .i64 0, .string ⟨#[]⟩, .bool false, .slice (some ⟨w27.heap.size, 0, none⟩) 2 2, .string ⟨#[98]⟩, .int .i64 1, .int .i64 0, .int .i64 0, .string ⟨#[]⟩, .bool false, .slice none 0 0] 31)) := ((Ext.refl w27).alloc _).alloc _
  have hw := hw.trans hx28
  have hP := hP.ext hx28
  have hR := hR.ext hx28
  clear hx28
  clear hS
  go_wp2_with fail
  generalize (w27.alloc (.cells #[.int .i64 1, .int .i64 1, .string ⟨#[]⟩, .bool false, .int .i64 1, .int .i64 2, .string ⟨#[]⟩, .bool false] 28)).alloc (.cells #[.string ⟨#[97]⟩, .int .i64 9, .int .i64 0, .int .i64 0, .string ⟨#[]⟩, .bool false, .slice (some ⟨w27.heap.size, 0, none⟩) 2 2, .string ⟨#[98]⟩, .int .i64 1, .int .i64 0, .int .i64 0, .string ⟨#[]⟩, .bool false, .slice none 0 0] 31) = w28 at *
  generalize w27.heap.size + 1 = b28 at *
  generalize w27.heap.size = bs28 at *
  have hm := psame_any w28 _ _ _ _ hR hQ
  rw [aR_same] at hm
  clear hP hR hQ
  refine hm.mono ?_
  rintro e w29 ⟨rfl, hx29⟩
  have hw := hw.trans hx29.1
  clear hx29 hm
  go_wp2_with fail
  go_ret
  exact ⟨rfl, hw⟩
end Go.Proofs.Ytkefppdacigbmaa
