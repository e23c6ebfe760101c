/- PredKnown, walked. -/
import Derived.Test.YtkefppdacigbmaaA16
import Derived.Test.YtkefppdacigbmaaI1
import Derived.LoopN
namespace Go.Proofs.Ytkefppdacigbmaa
open Go.RowKit Go.Sort

theorem Row.head {w : World} {size n cap : Nat} {a : Option Addr} {xs : List Value} (h : Row w size (.slice a n cap) n xs) (j : Nat) (hj : j ≤ n) : Row w size (.slice a j cap) j (xs.take (j * size)) := by
  obtain ⟨hl, a', cap', hv, hcp, hm, hnil, hspot, hcell⟩ := h
  simp only [Value.slice.injEq] at hv
  obtain ⟨rfl, -, rfl⟩ := hv
  refine ⟨?_, _, _, rfl, by omega, hm, hnil, hspot, fun k u hk => ?_⟩
  · rw [List.length_take, hl]; exact Nat.min_eq_left (Nat.mul_le_mul_right _ hj)
  · rw [List.getElem?_take] at hk
    split at hk
    · exact hcell k u hk
    · cases hk

set_option maxRecDepth 100000 in
set_option maxHeartbeats 2000000 in
theorem lawMay_any (w : World) (c : C) (sa : Option Addr) (sc : Nat) (hs : SetR w (.slice sa c.set.length sc) c.set) :
    Calls Try.prog 24 #[.agg #[.string (strOf c.name), .int .i64 c.op, .int .i64 c.v.k, .int .i64 c.v.n, .string (strOf c.v.s), .bool c.v.b, .slice sa c.set.length sc]] w
      fun e w' => e = .returned (.bool (mayC c)) ∧ Ext w w' := by
  have hx0 : Ext w (w.alloc (.cells #[.string (strOf c.name), .int .i64 c.op, .int .i64 c.v.k, .int .i64 c.v.n, .string (strOf c.v.s), .bool c.v.b, .slice sa c.set.length sc] 31)) := (Ext.refl w).alloc _
  have hs0 := hs.ext hx0
  go_enter Try.func24, Try.ntmps24
  go_wp2_with (go_at_call 25; refine (maycons_any _ c sa sc hs0).mono ?_; rintro e w2 ⟨rfl, hx2⟩)
  go_ret
  exact ⟨rfl, hx0.trans hx2⟩

def zV : V := ⟨0, 0, [], false⟩
def sixL (k : Nat) : List V := (List.range 6).map fun i => if i < k then vN1 i else zV
theorem six_set : ∀ k, k < 6 → (sixL k).set k (vN1 k) = sixL (k + 1)
  | 0, _ => rfl
  | 1, _ => rfl
  | 2, _ => rfl
  | 3, _ => rfl
  | 4, _ => rfl
  | 5, _ => rfl
theorem six_len (k : Nat) : (sixL k).length = 6 := by unfold sixL; rw [List.length_map, List.length_range]
def c0 : C := ⟨[97], 1, zV, []⟩
def x0 : CS := ⟨c0, .slice none 0 0⟩
theorem rep_set (n : Nat) (w : World) : ∀ x ∈ List.replicate n x0, SetR w x.h x.c.set := fun x hx => by rw [List.eq_of_mem_replicate hx]; exact SetR.nil w
theorem rep_pred {w : World} {a : Option Addr} {n cap : Nat} (h : Row w 7 (.slice a n cap) n ((List.replicate n x0).flatMap csC)) : PredR w (.slice a n cap) (List.replicate n c0) := by
  have := PredR.mk (W := w) (v := .slice a n cap) (List.replicate n x0) (by rw [List.length_replicate]; exact h) (rep_set n w)
  rw [List.map_replicate] at this
  exact this
theorem k_norm : normP (List.replicate 6 c0) = [c0] := by kernel_rfl
theorem k_may6 : mayP (List.replicate 6 c0) = true := by kernel_rfl
theorem k_may7 : mayP (List.replicate 7 c0) = false := by kernel_rfl
theorem k_cmp : cmpP (List.replicate 7 c0) (List.replicate 6 c0) = 1 := by kernel_rfl
def sv (l : List UInt8) : V := ⟨2, 0, l, false⟩

theorem k_a : mayC ⟨[97], 9, zV, sixL 6⟩ = true := by kernel_rfl
theorem k_b : mayC ⟨[97], 9, zV, sixL 6 ++ [vN1 9]⟩ = false := by kernel_rfl
theorem k_c : mayC ⟨[97], 9, zV, []⟩ = false := by kernel_rfl
theorem k_d : mayC ⟨[], 1, zV, []⟩ = false := by kernel_rfl
theorem k_e : mayC ⟨[49, 50, 51, 52, 53, 54, 55, 56, 57, 48, 49, 50, 51, 52, 53, 54, 55], 1, zV, []⟩ = false := by kernel_rfl
theorem k_f : mayC ⟨[97], 8, vN1 1, []⟩ = false := by kernel_rfl
theorem k_g : mayC ⟨[97], 2, zV, []⟩ = false := by kernel_rfl
theorem k_h : mayC ⟨[97], 10, vN1 1, []⟩ = false := by kernel_rfl
theorem k_i : mayC ⟨[97], 1, vN1 0, []⟩ = false := by kernel_rfl
theorem k_j : mayP [⟨[], 0, zV, []⟩] = false := by kernel_rfl
theorem k_k : matchP [⟨[98], 8, sv [120], []⟩] [([98], sv [120, 121])] = true := by kernel_rfl
theorem k_l : matchP [⟨[99], 9, zV, [vN1 1, sv [122]]⟩] [([99], sv [122])] = true := by kernel_rfl
theorem k_m : matchP [⟨[99], 3, vN1 3, []⟩] [([99], ⟨3, 0, [], true⟩)] = false := by kernel_rfl

set_option maxRecDepth 100000 in
set_option maxHeartbeats 16000000 in
theorem predKnown_walk (w : World) : Calls Try.prog 7 #[] w fun e w' => e = .returned (.bool true) ∧ Ext w w' := by
  go_enter Try.func7, Try.ntmps7
  have hw := Ext.refl w
  go_wp2_with fail
  refine (awake_any _).mono ?_
  rintro e w1 ⟨rfl, hx1⟩
  have hw := hw.trans hx1
  clear hx1
  have hmk : ∀ w, (Instr.makeSlice 29 (.int .i64 6) (.int .i64 6)).run Try.prog w = .ok (.slice (some ⟨w.heap.size, 0, none⟩) 6 6) (w.alloc (.cells #[.int .i64 0, .int .i64 0, .string ⟨#[]⟩, .bool false, .int .i64 0, .int .i64 0, .string ⟨#[]⟩, .bool false, .int .i64 0, .int .i64 0, .string ⟨#[]⟩, .bool false, .int .i64 0, .int .i64 0, .string ⟨#[]⟩, .bool false, .int .i64 0, .int .i64 0, .string ⟨#[]⟩, .bool false, .int .i64 0, .int .i64 0, .string ⟨#[]⟩, .bool false] 28)) := fun _ => by kernel_rfl
  have hown : (w1.alloc (.cells #[.int .i64 0, .int .i64 0, .string ⟨#[]⟩, .bool false, .int .i64 0, .int .i64 0, .string ⟨#[]⟩, .bool false, .int .i64 0, .int .i64 0, .string ⟨#[]⟩, .bool false, .int .i64 0, .int .i64 0, .string ⟨#[]⟩, .bool false, .int .i64 0, .int .i64 0, .string ⟨#[]⟩, .bool false, .int .i64 0, .int .i64 0, .string ⟨#[]⟩, .bool false] 28)).ownsRow w1.heap.size 28 4 (.slice (some ⟨w1.heap.size, 0, none⟩) 6 6) 6 ((sixL 0).flatMap vC) := World.ownsRow_lit (base := w1.heap.size) (e := 28) (size := 4) w1 #[.int .i64 0, .int .i64 0, .string ⟨#[]⟩, .bool false, .int .i64 0, .int .i64 0, .string ⟨#[]⟩, .bool false, .int .i64 0, .int .i64 0, .string ⟨#[]⟩, .bool false, .int .i64 0, .int .i64 0, .string ⟨#[]⟩, .bool false, .int .i64 0, .int .i64 0, .string ⟨#[]⟩, .bool false, .int .i64 0, .int .i64 0, .string ⟨#[]⟩, .bool false] 6 (Nat.le_refl _) (by decide) rfl
  have hxS : Ext w1 (w1.alloc (.cells #[.int .i64 0, .int .i64 0, .string ⟨#[]⟩, .bool false, .int .i64 0, .int .i64 0, .string ⟨#[]⟩, .bool false, .int .i64 0, .int .i64 0, .string ⟨#[]⟩, .bool false, .int .i64 0, .int .i64 0, .string ⟨#[]⟩, .bool false, .int .i64 0, .int .i64 0, .string ⟨#[]⟩, .bool false, .int .i64 0, .int .i64 0, .string ⟨#[]⟩, .bool false] 28)) := (Ext.refl _).alloc _
  have HOWN := Lib.hid hown
  clear hown
  go_wp2_with fail
  generalize w1.alloc (.cells #[.int .i64 0, .int .i64 0, .string ⟨#[]⟩, .bool false, .int .i64 0, .int .i64 0, .string ⟨#[]⟩, .bool false, .int .i64 0, .int .i64 0, .string ⟨#[]⟩, .bool false, .int .i64 0, .int .i64 0, .string ⟨#[]⟩, .bool false, .int .i64 0, .int .i64 0, .string ⟨#[]⟩, .bool false, .int .i64 0, .int .i64 0, .string ⟨#[]⟩, .bool false] 28) = ws at *
  go_loopw [3, 27] (fun _ i wr => ∃ k : Nat, k ≤ 6 ∧ i = .int .i64 k ∧ Hid (wr.ownsRow w1.heap.size 28 4 (.slice (some ⟨w1.heap.size, 0, none⟩) 6 6) 6 ((sixL k).flatMap vC)) ∧ Ext w1 wr) (fun _ i _ => 6 - (intOf i).toNat)
  case atStart => exact ⟨0, by omega, rfl, HOWN, hxS⟩
  case round =>
    obtain ⟨k, hk, rfl, hown, hx⟩ := hrel
    by_cases hlt : k < 6
    · have hI : decide ((k : Int) < 6) = true := decide_eq_true (by omega)
      go_wp2_with fail
      refine (lawN_any _ _).mono ?_
      rintro e w2 ⟨rfl, hx2⟩
      have hown2 := own_ext hown.out hx2
      have hth := own_there hown2 k 4 (by omega)
      have hset3 := own_set vC vC_len hown2 k (by rw [six_len]; exact hlt) (vN1 k)
      rw [six_set k hlt] at hset3
      have hxz := (hx.trans hx2).grown_none (v := .slice (some ⟨w1.heap.size, 0, none⟩) 6 6) hset3.2 (fun q hq => by cases hq; exact Nat.le_refl _)
      obtain ⟨wz, hwz⟩ : ∃ wz, w2.setCells w1.heap.size (k * 4) (vC (vN1 k)) = wz := ⟨_, rfl⟩
      rw [hwz] at hset3 hxz
      have HWZ := Lib.hid hwz
      have HS3 := Lib.hid hset3.1
      clear hwz hset3 hown2 hx2 hown hx
      go_wp2_with (refine wpList_store_mid rfl 28 (.tmp 34) (.tmp 33) rfl w1.heap.size (k * 4) #[.int .i64 1, .int .i64 k, .string ⟨#[]⟩, .bool false] rfl rfl hth size28 (by simp [Value.oneCell']) ?_; rw [show w2.setCells w1.heap.size (k * 4) (#[.int .i64 1, .int .i64 k, .string ⟨#[]⟩, .bool false] : Array Value).toList = wz from HWZ.out])
      go_roundw
      case rel => exact ⟨k + 1, hlt, by go_num, HS3, hxz⟩
      case measure => simp [intOf]; omega
    · obtain rfl : k = 6 := by omega
      have hwL := hw
      have hw := hw.trans hx
      clear HOWN hxS

      have hw0 := hwL
      have hS : SetR wr (.slice (some ⟨w1.heap.size, 0, none⟩) 6 6) (sixL 6) := Row.of_own hown.out
      have hO := hown.out
      clear hown
      have hI : decide (((6 : Nat) : Int) < 6) = false := decide_eq_false (by omega)
      have hm := lawMay_any wr ⟨[97], 9, zV, sixL 6⟩ (some ⟨w1.heap.size, 0, none⟩) 6 hS
      rw [k_a] at hm
      clear hS
      go_wp2_with fail
      refine hm.mono ?_
      rintro e w2 ⟨rfl, hx2⟩
      have hO := own_ext hO hx2
      have hx := hx.trans hx2
      have hw := hw.trans hx2
      clear hx2
      clear hm
      go_wp2_with fail
      refine (lawN_any _ 9).mono ?_
      rintro e w3 ⟨rfl, hx3⟩
      have hO := own_ext hO hx3
      have hx := hx.trans hx3
      have hw := hw.trans hx3
      clear hx3
      have hO2 := own_ext hO ((Ext.refl w3).alloc (.cells #[.int .i64 1, .int .i64 9, .string ⟨#[]⟩, .bool false] 28))
      have hxa := hx.alloc (.cells #[.int .i64 1, .int .i64 9, .string ⟨#[]⟩, .bool false] 28)
      have hro : Row (w3.alloc (.cells #[.int .i64 1, .int .i64 9, .string ⟨#[]⟩, .bool false] 28)) 4 (.slice (some ⟨w3.heap.size, 0, none⟩) 1 1) 1 (vC (vN1 9)) := Row.of_own (World.ownsRow_lit (base := w3.heap.size) (e := 28) (size := 4) w3 #[.int .i64 1, .int .i64 9, .string ⟨#[]⟩, .bool false] 1 (Nat.le_refl _) (by decide) rfl)
      have hone := vC_one [vN1 9]
      rw [List.flatMap_singleton] at hone
      have HO2 := Lib.hid hO2
      have HRO := Lib.hid hro
      have HONE := Lib.hid hone
      clear hO hO2 hro hone
      go_wp2_with (at_builtin; refine wpList_append_row 29 28 (.tmp 41) (.tmp 43) rfl w1.heap.size _ 4 40 Try.underlying29 info28t rfl (by decide) rfl _ 6 ((sixL 6).flatMap vC) rfl HO2.out 1 (vC (vN1 9)) HRO.out HONE.out (by decide) (by decide) hxa.size ?_; intro v7 w4 hown7 hgrow; obtain ⟨a7, c7, rfl, _, _⟩ := Row.shape (Row.of_own hown7); have HO7 := Lib.hid hown7; have hx7 := hxa.grown_none hgrow (own_base HO2.out); clear hown7 hgrow)

      have hS7 : SetR w4 (.slice a7 7 c7) (sixL 6 ++ [vN1 9]) := by
        have h := Row.of_own HO7.out
        unfold SetR
        rw [List.flatMap_append, List.flatMap_singleton]
        exact h
      have hw := hw0.trans hx7
      clear hx7 HO7 hx hxa HO2 HRO HONE
      have hm := lawMay_any w4 ⟨[97], 9, zV, sixL 6 ++ [vN1 9]⟩ a7 c7 hS7
      rw [k_b] at hm
      go_wp2_with fail
      refine (hm).mono ?_
      rintro e w5 ⟨rfl, hx5⟩
      have hw := hw.trans hx5
      clear hx5
      clear hm
      clear hS7
      have hm := lawMay_any w5 ⟨[97], 9, zV, []⟩ none 0 (SetR.nil _)
      rw [k_c] at hm
      go_wp2_with fail
      refine (hm).mono ?_
      rintro e w6 ⟨rfl, hx6⟩
      have hw := hw.trans hx6
      clear hx6
      clear hm
      have hm := lawMay_any w6 ⟨[], 1, zV, []⟩ none 0 (SetR.nil _)
      rw [k_d] at hm
      go_wp2_with fail
      refine (hm).mono ?_
      rintro e w7 ⟨rfl, hx7⟩
      have hw := hw.trans hx7
      clear hx7
      clear hm
      have hm := lawMay_any w7 ⟨[49, 50, 51, 52, 53, 54, 55, 56, 57, 48, 49, 50, 51, 52, 53, 54, 55], 1, zV, []⟩ none 0 (SetR.nil _)
      rw [k_e] at hm
      go_wp2_with fail
      refine (hm).mono ?_
      rintro e w8 ⟨rfl, hx8⟩
      have hw := hw.trans hx8
      clear hx8
      clear hm
      go_wp2_with fail
      refine (lawN_any _ 1).mono ?_
      rintro e w9 ⟨rfl, hx9⟩
      have hw := hw.trans hx9
      clear hx9
      have hm := lawMay_any w9 ⟨[97], 8, vN1 1, []⟩ none 0 (SetR.nil _)
      rw [k_f] at hm
      go_wp2_with fail
      refine (hm).mono ?_
      rintro e w10 ⟨rfl, hx10⟩
      have hw := hw.trans hx10
      clear hx10
      clear hm
      have hm := lawMay_any w10 ⟨[97], 2, zV, []⟩ none 0 (SetR.nil _)
      rw [k_g] at hm
      go_wp2_with fail
      refine (hm).mono ?_
      rintro e w11 ⟨rfl, hx11⟩
      have hw := hw.trans hx11
      clear hx11
      clear hm
      go_wp2_with fail
      refine (lawN_any _ 1).mono ?_
      rintro e w12 ⟨rfl, hx12⟩
      have hw := hw.trans hx12
      clear hx12
      have hm := lawMay_any w12 ⟨[97], 10, vN1 1, []⟩ none 0 (SetR.nil _)
      rw [k_h] at hm
      go_wp2_with fail
      refine (hm).mono ?_
      rintro e w13 ⟨rfl, hx13⟩
      have hw := hw.trans hx13
      clear hx13
      clear hm
      go_wp2_with fail
      refine (lawN_any _ 0).mono ?_
      rintro e w14 ⟨rfl, hx14⟩
      have hw := hw.trans hx14
      clear hx14
      have hm := lawMay_any w14 ⟨[97], 1, vN1 0, []⟩ none 0 (SetR.nil _)
      rw [k_i] at hm
      go_wp2_with fail
      refine (hm).mono ?_
      rintro e w15 ⟨rfl, hx15⟩
      have hw := hw.trans hx15
      clear hx15
      clear hm
      have hmk2 : ∀ w, (Instr.makeSlice 23 (.int .i64 1) (.int .i64 1)).run Try.prog w = .ok (.slice (some ⟨w.heap.size, 0, none⟩) 1 1) (w.alloc (.cells #[.string ⟨#[]⟩, .int .i64 0, .int .i64 0, .int .i64 0, .string ⟨#[]⟩, .bool false, .slice none 0 0] 31)) := fun _ => by kernel_rfl
      have hP : PredR (w15.alloc (.cells #[.string ⟨#[]⟩, .int .i64 0, .int .i64 0, .int .i64 0, .string ⟨#[]⟩, .bool false, .slice none 0 0] 31)) (.slice (some ⟨w15.heap.size, 0, none⟩) 1 1) [⟨[], 0, zV, []⟩] := by
        have h := pred_lit w15 [⟨⟨[], 0, zV, []⟩, .slice none 0 0⟩] (by show (1 : Nat) ≤ maxLen; decide) (List.forall_mem_cons.2 ⟨SetR.nil _, (fun _ h => (by cases h))⟩)
        exact h
      have hx16 : Ext w15 (w15.alloc (.cells #[.string ⟨#[]⟩, .int .i64 0, .int .i64 0, .int .i64 0, .string ⟨#[]⟩, .bool false, .slice none 0 0] 31)) := (Ext.refl w15).alloc _
      have hw := hw.trans hx16
      clear hx16
      go_wp2_with fail
      generalize w15.alloc (.cells #[.string ⟨#[]⟩, .int .i64 0, .int .i64 0, .int .i64 0, .string ⟨#[]⟩, .bool false, .slice none 0 0] 31) = w16 at *
      generalize w15.heap.size = b16_0 at *
      have hm := pmay_any w16 _ _ hP
      rw [k_j] at hm
      clear hmk2 hP
      go_wp2_with fail
      refine (hm).mono ?_
      rintro e w17 ⟨rfl, hx17⟩
      have hw := hw.trans hx17
      clear hx17
      clear hm
      go_wp2_with fail
      refine (lawS_any _ _).mono ?_
      rintro e w18 ⟨rfl, hx18⟩
      have hw := hw.trans hx18
      clear hx18
      have hP : PredR (w18.alloc (.cells #[.string ⟨#[98]⟩, .int .i64 8, .int .i64 2, .int .i64 0, .string ⟨#[120]⟩, .bool false, .slice none 0 0] 31)) (.slice (some ⟨w18.heap.size, 0, none⟩) 1 1) [⟨[98], 8, sv [120], []⟩] := by
        have h := pred_lit w18 [⟨⟨[98], 8, sv [120], []⟩, .slice none 0 0⟩] (by show (1 : Nat) ≤ maxLen; decide) (List.forall_mem_cons.2 ⟨SetR.nil _, (fun _ h => (by cases h))⟩)
        exact h
      have hx19 : Ext w18 (w18.alloc (.cells #[.string ⟨#[98]⟩, .int .i64 8, .int .i64 2, .int .i64 0, .string ⟨#[120]⟩, .bool false, .slice none 0 0] 31)) := (Ext.refl w18).alloc _
      have hw := hw.trans hx19
      clear hx19
      go_wp2_with fail
      generalize w18.alloc (.cells #[.string ⟨#[98]⟩, .int .i64 8, .int .i64 2, .int .i64 0, .string ⟨#[120]⟩, .bool false, .slice none 0 0] 31) = w19 at *
      generalize w18.heap.size = b19_0 at *
      go_wp2_with fail
      refine (lawS_any _ _).mono ?_
      rintro e w20 ⟨rfl, hx20⟩
      have hw := hw.trans hx20
      have hP := hP.ext hx20
      clear hx20
      go_wp2_with fail
      refine (lawA_any _ _ _ _ _ _).mono ?_
      rintro e w21 ⟨rfl, hx21⟩
      have hw := hw.trans hx21
      have hP := hP.ext hx21
      clear hx21
      have hA : AttrR (w21.alloc (.cells #[.string ⟨#[98]⟩, .int .i64 2, .int .i64 0, .string ⟨#[120, 121]⟩, .bool false] 52)) (.slice (some ⟨w21.heap.size, 0, none⟩) 1 1) [([98], sv [120, 121])] := by
        have h := attr_lit w21 [([98], sv [120, 121])] (by decide)
        exact h
      have hx22 : Ext w21 (w21.alloc (.cells #[.string ⟨#[98]⟩, .int .i64 2, .int .i64 0, .string ⟨#[120, 121]⟩, .bool false] 52)) := (Ext.refl w21).alloc _
      have hw := hw.trans hx22
      have hP := hP.ext hx22
      clear hx22
      go_wp2_with fail
      generalize w21.alloc (.cells #[.string ⟨#[98]⟩, .int .i64 2, .int .i64 0, .string ⟨#[120, 121]⟩, .bool false] 52) = w22 at *
      generalize w21.heap.size = b22_0 at *
      go_wp2_with fail
      refine (lawE_any _ _ _ _).mono ?_
      rintro e w23 ⟨rfl, hx23⟩
      have hw := hw.trans hx23
      have hP := hP.ext hx23
      have hA := hA.ext hx23
      clear hx23
      have hm := matches_any w23 _ [⟨[98], 8, sv [120], []⟩] [] _ _ hP hA
      rw [k_k] at hm
      clear hA hP
      go_wp2_with fail
      refine (hm).mono ?_
      rintro e w24 ⟨rfl, hx24⟩
      have hw := hw.trans hx24
      clear hx24
      clear hm
      go_wp2_with fail
      refine (lawN_any _ 1).mono ?_
      rintro e w25 ⟨rfl, hx25⟩
      have hw := hw.trans hx25
      clear hx25
      go_wp2_with fail
      refine (lawS_any _ _).mono ?_
      rintro e w26 ⟨rfl, hx26⟩
      have hw := hw.trans hx26
      clear hx26
      have hS : SetR (w26.alloc (.cells #[.int .i64 1, .int .i64 1, .string ⟨#[]⟩, .bool false, .int .i64 2, .int .i64 0, .string ⟨#[122]⟩, .bool false] 28)) (.slice (some ⟨w26.heap.size, 0, none⟩) 2 2) [vN1 1, sv [122]] := by
        have h := set_lit w26 [vN1 1, sv [122]] (by decide)
        exact h
      have hP : PredR ((w26.alloc (.cells #[.int .i64 1, .int .i64 1, .string ⟨#[]⟩, .bool false, .int .i64 2, .int .i64 0, .string ⟨#[122]⟩, .bool false] 28)).alloc (.cells #[.string ⟨#[99]⟩, .int .i64 9, .int .i64 0, .int .i64 0, .string ⟨#[]⟩, .bool false, .slice (some ⟨w26.heap.size, 0, none⟩) 2 2] 31)) (.slice (some ⟨w26.heap.size + 1, 0, none⟩) 1 1) [⟨[99], 9, zV, [vN1 1, sv [122]]⟩] := by
        have h := pred_lit (w26.alloc (.cells #[.int .i64 1, .int .i64 1, .string ⟨#[]⟩, .bool false, .int .i64 2, .int .i64 0, .string ⟨#[122]⟩, .bool false] 28)) [⟨⟨[99], 9, zV, [vN1 1, sv [122]]⟩, .slice (some ⟨w26.heap.size, 0, none⟩) 2 2⟩] (by show (1 : Nat) ≤ maxLen; decide) (List.forall_mem_cons.2 ⟨hS, (fun _ h => (by cases h))⟩)
        rw [World.size_alloc] at h
        exact h
      have hx27 : Ext w26 ((w26.alloc (.cells #[.int .i64 1, .int .i64 1, .string ⟨#[]⟩, .bool false, .int .i64 2, .int .i64 0, .string ⟨#[122]⟩, .bool false] 28)).alloc (.cells #[.string ⟨#[99]⟩, .int .i64 9, .int .i64 0, .int .i64 0, .string ⟨#[]⟩, .bool false, .slice (some ⟨w26.heap.size, 0, none⟩) 2 2] 31)) := ((Ext.refl w26).alloc _).alloc _
      have hw := hw.trans hx27
      clear hx27
      go_wp2_with fail
      generalize (w26.alloc (.cells #[.int .i64 1, .int .i64 1, .string ⟨#[]⟩, .bool false, .int .i64 2, .int .i64 0, .string ⟨#[122]⟩, .bool false] 28)).alloc (.cells #[.string ⟨#[99]⟩, .int .i64 9, .int .i64 0, .int .i64 0, .string ⟨#[]⟩, .bool false, .slice (some ⟨w26.heap.size, 0, none⟩) 2 2] 31) = w27 at *
      generalize w26.heap.size + 1 = b27_1 at *
      generalize w26.heap.size = b27_0 at *
      clear hS
      go_wp2_with fail
      refine (lawS_any _ _).mono ?_
      rintro e w28 ⟨rfl, hx28⟩
      have hw := hw.trans hx28
      have hP := hP.ext hx28
      clear hx28
      go_wp2_with fail
      refine (lawA_any _ _ _ _ _ _).mono ?_
      rintro e w29 ⟨rfl, hx29⟩
      have hw := hw.trans hx29
      have hP := hP.ext hx29
      clear hx29
      have hA : AttrR (w29.alloc (.cells #[.string ⟨#[99]⟩, .int .i64 2, .int .i64 0, .string ⟨#[122]⟩, .bool false] 52)) (.slice (some ⟨w29.heap.size, 0, none⟩) 1 1) [([99], sv [122])] := by
        have h := attr_lit w29 [([99], sv [122])] (by decide)
        exact h
      have hx30 : Ext w29 (w29.alloc (.cells #[.string ⟨#[99]⟩, .int .i64 2, .int .i64 0, .string ⟨#[122]⟩, .bool false] 52)) := (Ext.refl w29).alloc _
      have hw := hw.trans hx30
      have hP := hP.ext hx30
      clear hx30
      go_wp2_with fail
      generalize w29.alloc (.cells #[.string ⟨#[99]⟩, .int .i64 2, .int .i64 0, .string ⟨#[122]⟩, .bool false] 52) = w30 at *
      generalize w29.heap.size = b30_0 at *
      go_wp2_with fail
      refine (lawE_any _ _ _ _).mono ?_
      rintro e w31 ⟨rfl, hx31⟩
      have hw := hw.trans hx31
      have hP := hP.ext hx31
      have hA := hA.ext hx31
      clear hx31
      have hm := matches_any w31 _ [⟨[99], 9, zV, [vN1 1, sv [122]]⟩] [] _ _ hP hA
      rw [k_l] at hm
      clear hA hP
      go_wp2_with fail
      refine (hm).mono ?_
      rintro e w32 ⟨rfl, hx32⟩
      have hw := hw.trans hx32
      clear hx32
      clear hm
      go_wp2_with fail
      refine (lawN_any _ 3).mono ?_
      rintro e w33 ⟨rfl, hx33⟩
      have hw := hw.trans hx33
      clear hx33
      have hP : PredR (w33.alloc (.cells #[.string ⟨#[99]⟩, .int .i64 3, .int .i64 1, .int .i64 3, .string ⟨#[]⟩, .bool false, .slice none 0 0] 31)) (.slice (some ⟨w33.heap.size, 0, none⟩) 1 1) [⟨[99], 3, vN1 3, []⟩] := by
        have h := pred_lit w33 [⟨⟨[99], 3, vN1 3, []⟩, .slice none 0 0⟩] (by show (1 : Nat) ≤ maxLen; decide) (List.forall_mem_cons.2 ⟨SetR.nil _, (fun _ h => (by cases h))⟩)
        exact h
      have hx34 : Ext w33 (w33.alloc (.cells #[.string ⟨#[99]⟩, .int .i64 3, .int .i64 1, .int .i64 3, .string ⟨#[]⟩, .bool false, .slice none 0 0] 31)) := (Ext.refl w33).alloc _
      have hw := hw.trans hx34
      clear hx34
      go_wp2_with fail
      generalize w33.alloc (.cells #[.string ⟨#[99]⟩, .int .i64 3, .int .i64 1, .int .i64 3, .string ⟨#[]⟩, .bool false, .slice none 0 0] 31) = w34 at *
      generalize w33.heap.size = b34_0 at *
      go_wp2_with fail
      refine (lawA_any _ _ _ _ _ _).mono ?_
      rintro e w35 ⟨rfl, hx35⟩
      have hw := hw.trans hx35
      have hP := hP.ext hx35
      clear hx35
      have hA : AttrR (w35.alloc (.cells #[.string ⟨#[99]⟩, .int .i64 3, .int .i64 0, .string ⟨#[]⟩, .bool true] 52)) (.slice (some ⟨w35.heap.size, 0, none⟩) 1 1) [([99], ⟨3, 0, [], true⟩)] := by
        have h := attr_lit w35 [([99], ⟨3, 0, [], true⟩)] (by decide)
        exact h
      have hx36 : Ext w35 (w35.alloc (.cells #[.string ⟨#[99]⟩, .int .i64 3, .int .i64 0, .string ⟨#[]⟩, .bool true] 52)) := (Ext.refl w35).alloc _
      have hw := hw.trans hx36
      have hP := hP.ext hx36
      clear hx36
      go_wp2_with fail
      generalize w35.alloc (.cells #[.string ⟨#[99]⟩, .int .i64 3, .int .i64 0, .string ⟨#[]⟩, .bool true] 52) = w36 at *
      generalize w35.heap.size = b36_0 at *
      go_wp2_with fail
      refine (lawE_any _ _ _ _).mono ?_
      rintro e w37 ⟨rfl, hx37⟩
      have hw := hw.trans hx37
      have hP := hP.ext hx37
      have hA := hA.ext hx37
      clear hx37
      have hm := matches_any w37 _ [⟨[99], 3, vN1 3, []⟩] [] _ _ hP hA
      rw [k_m] at hm
      clear hA hP
      go_wp2_with fail
      refine (hm).mono ?_
      rintro e w38 ⟨rfl, hx38⟩
      have hw := hw.trans hx38
      clear hx38
      clear hm
      go_wp2_with fail
      go_loopw [17, 99] (fun v i wr => ∃ k : Nat, k ≤ 7 ∧ i = .int .i64 k ∧ Hid (wr.ownsRow w38.heap.size 31 7 v k ((List.replicate k x0).flatMap csC)) ∧ Ext w38 wr) (fun _ i _ => 7 - (intOf i).toNat)
      case atStart => exact ⟨0, by omega, rfl, ⟨rfl, .inl ⟨rfl, rfl⟩⟩, Ext.refl _⟩
      case round =>
        obtain ⟨k, hk, rfl, hown, hx⟩ := hrel
        by_cases hlt : k < 7
        · have hI : decide ((k : Int) < 7) = true := decide_eq_true (by omega)
          have hro := addRow wr x0
          have hone := csC_one [x0] (fun y hy => by rw [List.mem_singleton.1 hy]; rfl)
          rw [List.flatMap_singleton] at hone
          have hO2 := own_ext hown.out ((Ext.refl wr).alloc (.cells (csC x0).toArray 31))
          have hxa := hx.alloc (.cells (csC x0).toArray 31)
          have HRO := Lib.hid hro
          have HONE := Lib.hid hone
          have HO2 := Lib.hid hO2
          have HXA := Lib.hid hxa
          clear hro hone hO2 hxa hown hx
          go_wp2_with (at_builtin; refine wpList_append_row 23 31 (.tmp 101) (.tmp 103) rfl w38.heap.size _ 7 88 Try.underlying23 info31t rfl (by decide) rfl _ k ((List.replicate k x0).flatMap csC) rfl HO2.out 1 (csC x0) HRO.out HONE.out (by omega) (by unfold maxLen; omega) HXA.out.size ?_; intro v7 w7 hown7 hgrow; have HO7 := Lib.hid hown7; have HG := Lib.hid hgrow; clear hown7 hgrow)
          go_roundw
          case rel =>
            refine ⟨k + 1, hlt, by go_num, ?_, HXA.out.grown_none HG.out (own_base HO2.out)⟩
            show World.ownsRow _ _ _ _ _ _ _
            rw [List.replicate_succ', List.flatMap_append, List.flatMap_singleton]
            exact HO7.out
          case measure => simp [intOf]; omega
        · obtain rfl : k = 7 := by omega
          have hI : decide (((7 : Nat) : Int) < 7) = false := decide_eq_false (by omega)
          have hw := hw.trans hx
          rcases hown.out.2 with ⟨_, e0⟩ | ⟨g, cap, cu, rfl, _, _, hcap, hcm, _, _⟩
          · exact absurd e0 (by decide)
          have hr7 := Row.of_own hown.out
          have hr6 := Row.head hr7 6 (by decide)
          rw [flat_take csC 7 csC_len, List.take_replicate] at hr6
          have hP7 := rep_pred hr7
          have hP6 := rep_pred (n := 6) hr6
          have hno := normal_yes wr _ _ hP6 k_may6
          have HP7 := Lib.hid hP7
          have HP6 := Lib.hid hP6
          have HNO := Lib.hid hno
          clear hown hr7 hr6 hP7 hP6 hno hx
          go_wp2_with fail
          refine HNO.out.mono ?_
          rintro e w8 ⟨v8, us8, rfl, h8⟩
          have hR : PredR w8 v8 [c0] := by
            have := PredR.mk us8 (Row.of_own h8.2.1) (fun x hx => (h8.2.2.1 x hx).set)
            rw [h8.1, k_norm] at this
            exact this
          obtain ⟨a8, c8, rfl, _, _⟩ := hR.shape
          have hx8 := h8.2.2.2
          have hw := hw.trans hx8
          have HM := Lib.hid (pmay_any w8 _ _ (HP7.out.ext hx8))
          have HP7 := Lib.hid (HP7.out.ext hx8)
          have HP6 := Lib.hid (HP6.out.ext hx8)
          rw [k_may7] at HM
          clear h8 hR HNO hx8
          go_wp2_with fail
          refine HM.out.mono ?_
          rintro e w9 ⟨rfl, hx9⟩
          have hw := hw.trans hx9
          have hc := pcompare_any w9 _ _ _ _ (HP7.out.ext hx9) (HP6.out.ext hx9)
          rw [k_cmp] at hc
          clear HM hx9
          go_wp2_with fail
          refine hc.mono ?_
          rintro e w10 ⟨rfl, hx10⟩
          go_wp2_with fail
          go_ret
          exact ⟨rfl, hw.trans hx10.1⟩
end Go.Proofs.Ytkefppdacigbmaa
