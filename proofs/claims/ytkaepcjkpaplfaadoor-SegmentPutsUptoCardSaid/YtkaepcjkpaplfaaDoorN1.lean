/- A segment's name, walked: may, Name. -/
import Derived.Test.YtkaepcjkpaplfaaDoorW2
import Derived.Test.YtkaepcjkpaplfaaDoorS1
namespace Go.Proofs.YtkaepcjkpaplfaaDoor
open Go.RowKit

theorem may_any (w : World) (n : Nat) : Calls Tryd.prog 27 #[.int .u64 n] w fun e w' => e = .returned (.bool (decide (may n))) ∧ w = w' := by
  by_cases h1 : 1 ≤ n
  · by_cases h2 : n ≤ 1099511627776
    · have e : decide (may n) = true := decide_eq_true ⟨h1, h2⟩
      rw [e]
      have a1 : decide ((1 : Int) ≤ (n : Int)) = true := decide_eq_true (by omega)
      have a2 : decide ((n : Int) ≤ 1099511627776) = true := decide_eq_true (by omega)
      clear e
      go_enter Tryd.func27, Tryd.ntmps27
      go_wp2_with fail
      go_ret
      exact ⟨rfl, rfl⟩
    · have e : decide (may n) = false := decide_eq_false fun h => h2 h.2
      rw [e]
      have a1 : decide ((1 : Int) ≤ (n : Int)) = true := decide_eq_true (by omega)
      have a2 : decide ((n : Int) ≤ 1099511627776) = false := decide_eq_false (by omega)
      clear e
      go_enter Tryd.func27, Tryd.ntmps27
      go_wp2_with fail
      go_ret
      exact ⟨rfl, rfl⟩
  · have e : decide (may n) = false := decide_eq_false fun h => h1 h.1
    rw [e]
    have a1 : decide ((1 : Int) ≤ (n : Int)) = false := decide_eq_false (by omega)
    clear e
    go_enter Tryd.func27, Tryd.ntmps27
    go_wp2_with fail
    go_ret
    exact ⟨rfl, rfl⟩

theorem digs_front : ∀ (k n : Nat), digs (k + 1) n = UInt8.ofNat (48 + n / 10 ^ k % 10) :: digs k n
  | 0, n => by simp [digs]
  | k + 1, n => by
    have h := digs_front k (n / 10)
    have e : n / 10 / 10 ^ k = n / 10 ^ (k + 1) := by rw [Nat.div_div_eq_div_mul, Nat.pow_succ, Nat.mul_comm]
    rw [e] at h
    show digs (k + 1) (n / 10) ++ [UInt8.ofNat (48 + n % 10)] = _
    rw [h]
    rfl

def arrD (n k : Nat) : Array Value := ((List.replicate (13 - k) (0 : UInt8) ++ digs k n).map fun b => Value.int .u8 (b.toNat : Int)).toArray
theorem arrD_size (n k : Nat) (h : k ≤ 13) : (arrD n k).size = 13 := by
  simp only [arrD, List.size_toArray, List.length_map, List.length_append, List.length_replicate, digs_length]; omega
theorem arrD_set (n k : Nat) (h : k < 13) : (arrD n k).setIfInBounds (12 - k) (.int .u8 ((48 + n / 10 ^ k % 10 : Nat) : Int)) = arrD n (k + 1) := by
  have e1 : 13 - k = (12 - k) + 1 := by omega
  have e2 : 13 - (k + 1) = 12 - k := by omega
  have e3 : ((UInt8.ofNat (48 + n / 10 ^ k % 10)).toNat : Int) = ((48 + n / 10 ^ k % 10 : Nat) : Int) := by
    rw [UInt8.toNat_ofNat']; omega
  unfold arrD
  rw [e1, e2, digs_front, List.setIfInBounds_toArray, ← e3]
  congr 1
  rw [List.replicate_succ', List.append_assoc, List.map_append, List.map_append, List.set_append_right _ _ (by simp)]
  simp

theorem strOf_append (l m : List UInt8) : strOf l ++ strOf m = strOf (l ++ m) := by
  unfold strOf
  apply ByteArray.ext
  simp [ByteArray.data_append]
theorem strOf_size (l : List UInt8) : (strOf l).size = l.length := by unfold strOf; simp [ByteArray.size]
theorem bytes_block {w : World} {g : Nat} {l : List UInt8} {t : TypeId} {fr : Nat × Nat} (h : w.heap[g]? = some (.cells (l.map fun b => Value.int .u8 (b.toNat : Int)).toArray t fr)) (hl : l.length ≤ maxLen) :
    Bytes w (.slice (some ⟨g, 0, none⟩) l.length l.length) l := by
  refine ⟨by simp, some ⟨g, 0, none⟩, l.length, rfl, Nat.le_refl _, hl, by simp, fun p hp _ => by cases hp; rfl, fun j x hj => ⟨_, rfl, ?_⟩⟩
  rw [List.getElem?_map] at hj
  simp only [Nat.zero_add]
  rw [cell_of_row w g j _ _ _ h]
  simpa using hj
theorem lit_one (w : World) {q : Nat} (hq : q < 4) : Bytes (w.alloc (.cells #[.int .u8 (48 + (q : Int))] 5)) (.slice (some ⟨w.heap.size, 0, none⟩) 1 1) [UInt8.ofNat (48 + q)] := by
  have h := bytes_block (w := w.alloc (.cells #[.int .u8 (48 + (q : Int))] 5)) (l := [UInt8.ofNat (48 + q)]) (g := w.heap.size) (t := 5) (fr := (0, 0)) (by
    rw [heap_alloc_new]
    simp; omega) (by show 1 ≤ _; decide)
  exact h

set_option maxHeartbeats 1000000 in
theorem name_any (w : World) (p : Int) (n : Nat) (hp1 : -9223372036854775808 ≤ p) (hp2 : p ≤ 9223372036854775807) (hn : n < 18446744073709551616) :
    Calls Tryd.prog 9 #[.int .i64 p, .int .u64 n] w fun e w' => e = .returned (.tuple #[.string (strOf (nameF p n).1), .int .i64 (nameF p n).2]) ∧ Ext w w' := by
  by_cases h0 : p < 0
  · have e : nameF p n = ([], 1) := by unfold nameF; rw [if_pos (.inl h0)]
    rw [e]
    have a1 : decide (p < 0) = true := decide_eq_true h0
    clear e
    go_enter Tryd.func9, Tryd.ntmps9
    go_wp2_with fail
    go_ret2
    exact ⟨rfl, Ext.refl w⟩
  by_cases h4 : 4 ≤ p
  · have e : nameF p n = ([], 1) := by unfold nameF; rw [if_pos (.inr (.inl h4))]
    rw [e]
    have a1 : decide (p < 0) = false := decide_eq_false h0
    have a2 : decide (4 ≤ p) = true := decide_eq_true h4
    clear e
    go_enter Tryd.func9, Tryd.ntmps9
    go_wp2_with fail
    go_ret2
    exact ⟨rfl, Ext.refl w⟩
  have a1 : decide (p < 0) = false := decide_eq_false h0
  have a2 : decide (4 ≤ p) = false := decide_eq_false h4
  by_cases hm : may n
  · have e : nameF p n = (nameL p.toNat n, 0) := by unfold nameF; rw [if_neg (by rintro (h | h | h); exact h0 h; exact h4 h; exact h hm)]
    rw [e]
    clear e
    obtain ⟨q, rfl⟩ : ∃ q : Nat, p = (q : Int) := ⟨p.toNat, by omega⟩
    have hq : q < 4 := by omega
    have eq_ : ((q : Int)).toNat = q := rfl
    rw [eq_]
    clear eq_
    generalize hL : nameL q n = L
    have HL := Lib.hid hL
    clear hL
    go_enter Tryd.func9, Tryd.ntmps9
    go_wp2_with fail
    refine (may_any _ n).mono ?_
    rintro e w1 ⟨rfl, rfl⟩
    rw [decide_eq_true hm]
    go_wp2_with fail
    go_loopw [1, 19] (fun f i wr => ∃ k : Nat, k ≤ 13 ∧ i = .int .i64 k ∧ f = .int .u64 ((n / 10 ^ k : Nat) : Int) ∧ Hid (wr.heap[w.heap.size]? = some (.cells (arrD n k) 68 (0, 0))) ∧ Ext w wr) (fun _ i _ => 13 - (intOf i).toNat)
    case atStart => exact ⟨0, by omega, rfl, by simp, by show _ = _; rw [heap_alloc_new]; rfl, (Ext.refl w).alloc _⟩
    case round =>
      obtain ⟨k, hk, rfl, rfl, hblk, hx⟩ := hrel
      by_cases hlt : k < 13
      · have hd : decide ((k : Int) < 13) = true := decide_eq_true (by omega)
        have hnk : n / 10 ^ k < 18446744073709551616 := Nat.lt_of_le_of_lt (Nat.div_le_self _ _) hn
        have hset := Lib.hid (arrD_set n k hlt)
        have hsz := arrD_size n k hk
        have hdv : Hid (n / 10 ^ k / 10 = n / 10 ^ (k + 1)) := by show _ = _; rw [Nat.div_div_eq_div_mul, Nat.pow_succ]
        have hcell := cell_of_row wr w.heap.size (12 - k) _ _ _ hblk.out
        rw [Array.getElem?_eq_getElem (by omega)] at hcell
        have hfr : wr.frozen? ⟨w.heap.size, 12 - k, none⟩ = false := by simp [World.frozen?, hblk.out]
        generalize (arrD n k)[12 - k]'(by omega) = old at hcell
        generalize hm2 : n / 10 ^ k = m at *
        have HM2 := Lib.hid hm2
        clear hm2
        go_wp2_with fail
        go_roundw
        case rel => exact ⟨k + 1, hlt, by go_num, (by rw [← hdv.out]; go_num), (by show _ = _; rw [heap_setCell_same _ _ _ _ _ _ hblk.out, show (48 + (m : Int) % 10) = ((48 + m % 10 : Nat) : Int) by omega, hset.out]), hx.setCell (Nat.le_refl _) _⟩
        case measure => simp [intOf]; omega
      · obtain rfl : k = 13 := by omega
        have hd : decide (((13 : Nat) : Int) < 13) = false := rfl
        have harr : Bytes wr (.slice (some ⟨w.heap.size, 0, none⟩) 13 13) (digs 13 n) := by
          have := bytes_block (w := wr) (l := digs 13 n) (g := w.heap.size) (t := 68) (fr := (0, 0)) (by rw [hblk.out]; rfl) (by rw [digs_length]; decide)
          rwa [digs_length] at this
        have hnm : Hid (L = [115, UInt8.ofNat (48 + q), 45] ++ digs 13 n) := HL.out.symm
        clear HL
        have hone := fun w1 => lit_one w1 hq
        have hdl := digs_length 13 n
        generalize UInt8.ofNat (48 + q) = c at *
        generalize digs 13 n = D at *
        have hroom : ¬ (9223372036854775807 < (strOf [115, c, 45]).size + (strOf D).size) := by rw [strOf_size, strOf_size, hdl]; simp only [List.length_cons, List.length_nil]; omega
        have hcat : Hid (strOf [115, c, 45] ++ strOf D = strOf L) := by show _ = _; rw [hnm.out, strOf_append]
        clear hdl
        go_wp2_with fail
        refine wp_region_facts [Fact.eq (.int .i64 q),
            Fact.eq (.int .i64 (48 + q)),
            Fact.eq (.int .u8 (48 + q)),
            Fact.bytes [c],
            Fact.eq (.string (strOf [c])),
            Fact.eq (.string (strOf [115, c])),
            Fact.eq (.string (strOf [115, c, 45])),
            Fact.bytes D,
            Fact.eq (.string (strOf D)),
            Fact.eq (.string (strOf L)),
            Fact.eq (.string (strOf L)),
            Fact.eq (.int .i64 0)]
          [[], [(0, 32)], [(1, 33)], [(2, 34)], [(3, 35)], [(4, 36)], [(5, 37)], [], [(7, 39)], [(6, 38), (8, 40)], [(9, 41)], []]
          [(0, 32), (1, 33), (2, 34), (3, 35), (4, 36), (5, 37), (6, 38), (7, 39), (8, 40), (9, 41), (10, 4), (11, 5)] (by kernel_rfl) (by kernel_rfl) ?_ ?_
        · refine ⟨?_, ?_, ?_, ?_, ?_, ?_, ?_, ?_, ?_, ?_, ?_, ?_, trivial⟩
          · intro w1 hx1; change wpList _ _ _ _ _ _; exact ob_move rfl rfl rfl rfl rfl
          · intro w1 hx1; rintro _ rfl; change wpList _ _ _ _ _ _; go_wp2_with fail; exact ⟨rfl, Ext.refl _, rfl, rfl⟩
          · intro w1 hx1; rintro _ rfl; change wpList _ _ _ _ _ _; go_wp2_with fail; exact ⟨rfl, Ext.refl _, rfl, rfl⟩
          · intro w1 hx1; rintro _ rfl; change wpList _ _ _ _ _ _; go_wp2_with fail; exact ⟨rfl, (Ext.refl w1).alloc _, rfl, hone w1⟩
          · intro w1 hx1; intro v35 h35; change wpList _ _ _ _ _ _; refine strB _ rfl rfl h35 ?_; exact wpList_nil ⟨rfl, Ext.refl _, rfl, rfl⟩
          · intro w1 hx1; rintro _ rfl; change wpList _ _ _ _ _ _; go_wp2_with fail; exact ⟨rfl, Ext.refl _, rfl, rfl⟩
          · intro w1 hx1; rintro _ rfl; change wpList _ _ _ _ _ _; go_wp2_with fail; exact ⟨rfl, Ext.refl _, rfl, rfl⟩
          · intro w1 hx1; change wpList _ _ _ _ _ _; have hz := harr.ext hx1; go_wp2_with fail; exact ⟨rfl, Ext.refl _, rfl, hz⟩
          · intro w1 hx1; intro v39 h39; change wpList _ _ _ _ _ _; refine strB _ rfl rfl h39 ?_; exact wpList_nil ⟨rfl, Ext.refl _, rfl, rfl⟩
          · intro w1 hx1; rintro _ rfl; rintro _ rfl; change wpList _ _ _ _ _ _; go_wp2_with fail; rw [hcat.out]; exact ⟨rfl, Ext.refl _, rfl, rfl⟩
          · intro w1 hx1; rintro _ rfl; change wpList _ _ _ _ _ _; exact ob_assign rfl rfl rfl rfl rfl
          · intro w1 hx1; change wpList _ _ _ _ _ _; exact ob_assign rfl rfl rfl rfl rfl
        · intro w1 hx1; rintro _ rfl; rintro _ rfl; rintro _ rfl; intro v35 h35; rintro _ rfl; rintro _ rfl; rintro _ rfl; intro v39 h39; rintro _ rfl; rintro _ rfl; rintro _ rfl; rintro _ rfl; refine depsThen_nil ?_; dsimp only; simp only [Act.put, List.setIfInBounds_toArray, List.set_cons_zero, List.set_cons_succ]
          replace h35 : Bytes w1 v35 [c] := h35
          replace h39 : Bytes w1 v39 D := h39
          go_wp2_with fail
          go_ret2
          exact ⟨rfl, hx.trans hx1⟩
  · have e : nameF p n = ([], 1) := by unfold nameF; rw [if_pos (.inr (.inr hm))]
    rw [e]
    clear e
    go_enter Tryd.func9, Tryd.ntmps9
    go_wp2_with fail
    refine (may_any _ n).mono ?_
    rintro e w1 ⟨rfl, rfl⟩
    rw [decide_eq_false hm]
    go_wp2_with fail
    go_ret2
    exact ⟨rfl, Ext.refl w⟩

end Go.Proofs.YtkaepcjkpaplfaaDoor
