/- CrcKnown, walked: it answers true and writes nothing that was there. -/
import Derived.Test.YtanlhpmebpebgaaW2
import Derived.Test.YtanlhpmebpebgaaC3
namespace Go.Proofs.Ytanlhpmebpebgaa
open Go.RowKit

def zero32 : Array Value := #[.int .u8 0, .int .u8 0, .int .u8 0, .int .u8 0, .int .u8 0, .int .u8 0, .int .u8 0, .int .u8 0, .int .u8 0, .int .u8 0, .int .u8 0, .int .u8 0, .int .u8 0, .int .u8 0, .int .u8 0, .int .u8 0, .int .u8 0, .int .u8 0, .int .u8 0, .int .u8 0, .int .u8 0, .int .u8 0, .int .u8 0, .int .u8 0, .int .u8 0, .int .u8 0, .int .u8 0, .int .u8 0, .int .u8 0, .int .u8 0, .int .u8 0, .int .u8 0]

theorem OwnB.aside {w : World} {base g n cap : Nat} {l : List UInt8} (h : OwnB w base (.slice (some ⟨g, 0, none⟩) n cap) l) {p : Addr} (hp : p.block ≠ g) (u : Value) : OwnB (w.setCell p u) base (.slice (some ⟨g, 0, none⟩) n cap) l := by
  obtain ⟨h1, h2⟩ := h
  refine ⟨h1, ?_⟩
  rcases h2 with ⟨e, _⟩ | ⟨g', c, cur, e, hb, hg, r⟩
  · cases e
  · simp only [Value.slice.injEq, Option.some.injEq, Addr.mk.injEq, and_true] at e
    obtain ⟨rfl, rfl, rfl⟩ := e
    exact .inr ⟨g, cap, cur, rfl, hb, by rw [Below.heap_setCell _ _ _ _ (fun h => hp h.symm)]; exact hg, r⟩

theorem zero_own (w : World) (base : Nat) (hb : base ≤ w.heap.size) : OwnB (w.alloc (.cells zero32 5)) base (.slice (some ⟨w.heap.size, 0, none⟩) 32 32) (List.replicate 32 0) :=
  World.ownsRow_lit w zero32 32 hb (by decide) rfl

def ups : List UInt8 := (List.range 32).map UInt8.ofNat
def full : List UInt8 := List.replicate 32 255
theorem full_at {k : Nat} (h : k < 32) : full[k]? = some 255 := by rw [full, List.getElem?_replicate, if_pos h]
theorem ups_at {k : Nat} (h : k < 32) : ups[k]? = some (UInt8.ofNat k) := by simp [ups, h]
theorem ups_val {k : Nat} (h : k < 32) : Value.int .u8 (k : Int) = .int .u8 ((UInt8.ofNat k).toNat : Int) := by
  rw [UInt8.toNat_ofNat', Nat.mod_eq_of_lt (by omega)]
theorem sum_full : sumF full = 1655221059 := by decide +kernel
theorem sum_ups : sumF ups = 1188919630 := by decide +kernel
theorem sum_zero : sumF (List.replicate 32 0) = 2324772522 := by decide +kernel
theorem take_zero : takeF (List.replicate 4 0) = ([], 0) := by decide +kernel
theorem take_none : takeF [] = ([], 4) := by decide +kernel

set_option maxHeartbeats 1000000 in
theorem crcKnown_any (w : World) : Calls Try.prog 9 #[] w fun e w' => e = .returned (.bool true) ∧ Ext w w' := by
  have hmk : ∀ w, (Instr.makeSlice 22 (.int .i64 32) (.int .i64 32)).run Try.prog w = .ok (.slice (some ⟨w.heap.size, 0, none⟩) 32 32) (w.alloc (.cells zero32 5)) := fun _ => by kernel_rfl
  have hA : OwnB ((w.alloc (.cells zero32 5)).alloc (.cells zero32 5)).drew w.heap.size (.slice (some ⟨w.heap.size, 0, none⟩) 32 32) (List.replicate 32 0) :=
    ((zero_own w w.heap.size (Nat.le_refl _)).ext ((Ext.refl _).alloc _)).ext (Ext.refl _).drew
  have hB : OwnB ((w.alloc (.cells zero32 5)).alloc (.cells zero32 5)).drew w.heap.size (.slice (some ⟨w.heap.size + 1, 0, none⟩) 32 32) (List.replicate 32 0) := by
    have := (zero_own (w.alloc (.cells zero32 5)) w.heap.size (by simp)).ext (Ext.refl _).drew
    rw [size_alloc'] at this; exact this
  have hE : Ext w ((w.alloc (.cells zero32 5)).alloc (.cells zero32 5)).drew := (((Ext.refl w).alloc _).alloc _).drew
  go_enter Try.func9, Try.ntmps9
  go_wp2_with fail
  go_region
  · have o1 := hA; have o2 := hB
    have hne : w.heap.size ≠ w.heap.size + 1 := by omega
    clear hA hB hmk
    generalize ((w.alloc (.cells zero32 5)).alloc (.cells zero32 5)).drew = W at o1 o2 hE ⊢
    have g1 : w.heap.size ≥ w.heap.size := by omega
    have g2 : w.heap.size + 1 ≥ w.heap.size := by omega
    go_wp2_with fail
    go_loopw [3] (fun i wr => ∃ k : Nat, k ≤ 32 ∧ i = .int .i64 k ∧ OwnB wr w.heap.size (.slice (some ⟨w.heap.size, 0, none⟩) 32 32) (full.take k ++ List.replicate (32 - k) 0) ∧ OwnB wr w.heap.size (.slice (some ⟨w.heap.size + 1, 0, none⟩) 32 32) (ups.take k ++ List.replicate (32 - k) 0) ∧ Ext w wr) (fun i _ => 32 - (intOf i).toNat)
    case atStart => exact ⟨0, by omega, rfl, o1, o2, hE⟩
    case round =>
      clear o1 o2 hE
      obtain ⟨k, hk, rfl, o1, o2, hE⟩ := hrel
      by_cases hlt : k < 32
      · have hd : decide ((k : Int) < 32) = true := by simp; omega
        have hd2 : (k : Int) < 32 := by omega
        obtain ⟨c, -, q1, q2⟩ := o1.get (k := k) (by rw [fill_len full 32 k rfl hk]; exact hlt)
        have hl2 : k < (ups.take k ++ List.replicate (32 - k) (0 : UInt8)).length := by rw [fill_len ups 32 k rfl hk]; exact hlt
        obtain ⟨d, -, r1, r2⟩ := o2.get hl2
        have hv := Lib.hid (ups_val hlt)
        go_wp2_with fail
        rw [hv.out]
        go_roundw
        case rel =>
          have p1 := o1.set (k := k) (by rw [fill_len full 32 k rfl hk]; exact hlt) 255
          rw [fill_step full 32 k 255 hlt (full_at hlt)] at p1
          have p2 := (o2.aside (p := ⟨w.heap.size, k, none⟩) (by simp) (.int .u8 ((255 : UInt8).toNat : Int))).set hl2 (UInt8.ofNat k)
          rw [fill_step ups 32 k _ hlt (ups_at hlt)] at p2
          exact ⟨k + 1, by omega, by go_num, p1.aside (by simp) _, p2, (hE.setCell g1 _).setCell g2 _⟩
        case measure => simp [intOf]; omega
      · have hd : decide ((k : Int) < 32) = false := by simp; omega
        obtain rfl : k = 32 := by omega
        have b1 : Bytes wr (.slice (some ⟨w.heap.size, 0, none⟩) 32 32) full := o1.bytes
        have b2 : Bytes wr (.slice (some ⟨w.heap.size + 1, 0, none⟩) 32 32) ups := o2.bytes
        clear o1 o2 hne g1 g2 hlt hk
        go_wp2_with fail
        refine (take_any _ _ [] (Bytes.nil _) (by decide)).mono ?_
        rw [take_none]
        rintro e w3 ⟨v3, rfl, -, hx3⟩
        replace b1 := b1.ext hx3; replace b2 := b2.ext hx3; replace hE := hE.trans hx3; clear hx3
        go_wp2_with (at_make; refine makeB _ _ rfl rfl 4 rfl rfl (by omega) w3.heap.size (Nat.le_refl _) ?_; intro w4 ho4 hg4; have hx4 : Ext w3 w4 := Below.grown (Below.refl _ _) hg4 (Nat.le_refl _) (by simp))
        refine (take_any _ _ _ ho4.bytes (by decide)).mono ?_
        rw [take_zero]
        rintro e w5 ⟨v5, rfl, ho5, hx5⟩
        obtain ⟨a5, c5, rfl, -, -⟩ := ho5.bytes.shape
        replace hx5 := hx4.trans hx5
        replace b1 := b1.ext hx5; replace b2 := b2.ext hx5; replace hE := hE.trans hx5; clear hx5 hx4 ho4 hg4 ho5
        go_wp2_with (at_make; refine makeB _ _ rfl rfl 32 rfl rfl (by omega) w5.heap.size (Nat.le_refl _) ?_; intro w6 ho6 hg6; have hx6 : Ext w5 w6 := Below.grown (Below.refl _ _) hg6 (Nat.le_refl _) (by simp))
        refine (sum_any _ _ _ ho6.bytes).mono ?_
        rw [sum_zero]
        rintro e w7 ⟨rfl, hx7⟩
        replace hx7 := hx6.trans hx7
        replace b1 := b1.ext hx7; replace b2 := b2.ext hx7; replace hE := hE.trans hx7; clear hx7 hx6 ho6 hg6
        go_wp2_with fail
        refine (sum_any _ _ _ b1).mono ?_
        rw [sum_full]
        rintro e w8 ⟨rfl, hx8⟩
        replace b2 := b2.ext hx8; replace hE := hE.trans hx8; clear hx8 b1
        go_wp2_with fail
        refine (sum_any _ _ _ b2).mono ?_
        rw [sum_ups]
        rintro e w9 ⟨rfl, hx9⟩
        replace hE := hE.trans hx9; clear hx9 b2
        go_wp2_with fail
        refine (wakes_any _).mono ?_
        rintro e w10 ⟨rfl, hx10⟩
        go_wp2_with fail
        go_ret
        exact ⟨rfl, hE.trans hx10⟩
  · have o1 := hB; have o2 := hA
    have hne : w.heap.size + 1 ≠ w.heap.size := by omega
    clear hA hB hmk
    generalize ((w.alloc (.cells zero32 5)).alloc (.cells zero32 5)).drew = W at o1 o2 hE ⊢
    have g1 : w.heap.size + 1 ≥ w.heap.size := by omega
    have g2 : w.heap.size ≥ w.heap.size := by omega
    go_wp2_with fail
    go_loopw [3] (fun i wr => ∃ k : Nat, k ≤ 32 ∧ i = .int .i64 k ∧ OwnB wr w.heap.size (.slice (some ⟨w.heap.size + 1, 0, none⟩) 32 32) (full.take k ++ List.replicate (32 - k) 0) ∧ OwnB wr w.heap.size (.slice (some ⟨w.heap.size, 0, none⟩) 32 32) (ups.take k ++ List.replicate (32 - k) 0) ∧ Ext w wr) (fun i _ => 32 - (intOf i).toNat)
    case atStart => exact ⟨0, by omega, rfl, o1, o2, hE⟩
    case round =>
      clear o1 o2 hE
      obtain ⟨k, hk, rfl, o1, o2, hE⟩ := hrel
      by_cases hlt : k < 32
      · have hd : decide ((k : Int) < 32) = true := by simp; omega
        have hd2 : (k : Int) < 32 := by omega
        obtain ⟨c, -, q1, q2⟩ := o1.get (k := k) (by rw [fill_len full 32 k rfl hk]; exact hlt)
        have hl2 : k < (ups.take k ++ List.replicate (32 - k) (0 : UInt8)).length := by rw [fill_len ups 32 k rfl hk]; exact hlt
        obtain ⟨d, -, r1, r2⟩ := o2.get hl2
        have hv := Lib.hid (ups_val hlt)
        go_wp2_with fail
        rw [hv.out]
        go_roundw
        case rel =>
          have p1 := o1.set (k := k) (by rw [fill_len full 32 k rfl hk]; exact hlt) 255
          rw [fill_step full 32 k 255 hlt (full_at hlt)] at p1
          have p2 := (o2.aside (p := ⟨w.heap.size + 1, k, none⟩) (by simp) (.int .u8 ((255 : UInt8).toNat : Int))).set hl2 (UInt8.ofNat k)
          rw [fill_step ups 32 k _ hlt (ups_at hlt)] at p2
          exact ⟨k + 1, by omega, by go_num, p1.aside (by simp) _, p2, (hE.setCell g1 _).setCell g2 _⟩
        case measure => simp [intOf]; omega
      · have hd : decide ((k : Int) < 32) = false := by simp; omega
        obtain rfl : k = 32 := by omega
        have b1 : Bytes wr (.slice (some ⟨w.heap.size + 1, 0, none⟩) 32 32) full := o1.bytes
        have b2 : Bytes wr (.slice (some ⟨w.heap.size, 0, none⟩) 32 32) ups := o2.bytes
        clear o1 o2 hne g1 g2 hlt hk
        go_wp2_with fail
        refine (take_any _ _ [] (Bytes.nil _) (by decide)).mono ?_
        rw [take_none]
        rintro e w3 ⟨v3, rfl, -, hx3⟩
        replace b1 := b1.ext hx3; replace b2 := b2.ext hx3; replace hE := hE.trans hx3; clear hx3
        go_wp2_with (at_make; refine makeB _ _ rfl rfl 4 rfl rfl (by omega) w3.heap.size (Nat.le_refl _) ?_; intro w4 ho4 hg4; have hx4 : Ext w3 w4 := Below.grown (Below.refl _ _) hg4 (Nat.le_refl _) (by simp))
        refine (take_any _ _ _ ho4.bytes (by decide)).mono ?_
        rw [take_zero]
        rintro e w5 ⟨v5, rfl, ho5, hx5⟩
        obtain ⟨a5, c5, rfl, -, -⟩ := ho5.bytes.shape
        replace hx5 := hx4.trans hx5
        replace b1 := b1.ext hx5; replace b2 := b2.ext hx5; replace hE := hE.trans hx5; clear hx5 hx4 ho4 hg4 ho5
        go_wp2_with (at_make; refine makeB _ _ rfl rfl 32 rfl rfl (by omega) w5.heap.size (Nat.le_refl _) ?_; intro w6 ho6 hg6; have hx6 : Ext w5 w6 := Below.grown (Below.refl _ _) hg6 (Nat.le_refl _) (by simp))
        refine (sum_any _ _ _ ho6.bytes).mono ?_
        rw [sum_zero]
        rintro e w7 ⟨rfl, hx7⟩
        replace hx7 := hx6.trans hx7
        replace b1 := b1.ext hx7; replace b2 := b2.ext hx7; replace hE := hE.trans hx7; clear hx7 hx6 ho6 hg6
        go_wp2_with fail
        refine (sum_any _ _ _ b1).mono ?_
        rw [sum_full]
        rintro e w8 ⟨rfl, hx8⟩
        replace b2 := b2.ext hx8; replace hE := hE.trans hx8; clear hx8 b1
        go_wp2_with fail
        refine (sum_any _ _ _ b2).mono ?_
        rw [sum_ups]
        rintro e w9 ⟨rfl, hx9⟩
        replace hE := hE.trans hx9; clear hx9 b2
        go_wp2_with fail
        refine (wakes_any _).mono ?_
        rintro e w10 ⟨rfl, hx10⟩
        go_wp2_with fail
        go_ret
        exact ⟨rfl, hE.trans hx10⟩

end Go.Proofs.Ytanlhpmebpebgaa
