import Derived.Test.YtkaepcjkpaplfaaDoorRows
import Derived.Test.YtkaepcjkpaplfaaDoorK2
import Derived.Test.YtkaepcjkpaplfaaDoorC1
import Derived.BigQuiet
import Derived.Deep.QuietTactic
import Derived.Lib.Hide
import Derived.Deep.WholeRow
namespace Go.Proofs.YtkaepcjkpaplfaaDoor
open Go.RowKit

theorem Bytes.at {w : World} {a : Option Addr} {n cap : Nat} {l : List UInt8} (h : Bytes w (.slice a n cap) l) {k : Nat} (hk : k < l.length) :
    ∃ b o, a = some ⟨b, o, none⟩ ∧ w.cell? ⟨b, o + k, none⟩ = some (.int .u8 (l[k].toNat : Int)) := by
  obtain ⟨_, ad, c, hv, _, _, _, hsp, hc⟩ := h
  obtain ⟨p, hp, hcl⟩ := hc k (.int .u8 (l[k].toNat : Int)) (by simp [hk])
  obtain ⟨pb, po, ps⟩ := p
  have := hsp _ hp (by simp only [Value.slice.injEq] at hv; omega)
  simp only at this hcl; subst this
  simp only [Value.slice.injEq] at hv
  exact ⟨pb, po, hv.1.trans hp, hcl⟩

theorem stp_odd {t : Nat} (h : t < 4294967296) (ho : t % 2 = 1) : Value.int .u32 (bits .xor .u32 ((t : Int) / 2) 2197175160) = .int .u32 (stp t : Nat) := by
  have := u32_xor_nat (t / 2) 2197175160 (by omega) (by omega)
  have e : ((t : Int) / 2) = ((t / 2 : Nat) : Int) := by omega
  rw [e, show (2197175160 : Int) = ((2197175160 : Nat) : Int) from rfl, this, stp, if_pos ho]
theorem stp_even {t : Nat} (ho : ¬ t % 2 = 1) : Value.int .u32 ((t : Int) / 2) = .int .u32 (stp t : Nat) := by
  have e : ((t : Int) / 2) = ((t / 2 : Nat) : Int) := by omega
  rw [e, stp, if_neg ho]

set_option maxHeartbeats 400000 in
theorem ref_extend (x : Nat) (w : World) (v : Value) (l : List UInt8) (hl : Bytes w v l) (hx : x < 4294967296) :
    Calls Tryd.prog 74 #[.int .u32 x, v] w fun e w' => e = .returned (.int .u32 (extF x l)) ∧ w = w' := by
  obtain ⟨a, cap, rfl, hc, hm⟩ := hl.shape
  unfold maxLen at hm
  have e0 : (4294967295 : Int) - (x : Int) = ((4294967295 - x : Nat) : Int) := by omega
  go_enter Tryd.func74, Tryd.ntmps74
  go_wp2

  clear e0
  have hy : 4294967295 - x < 4294967296 := by omega
  generalize hxy : 4294967295 - x = y at hy ⊢
  have HXY := Lib.hid hxy; clear hxy
  go_loop [5, 6] (fun s i => ∃ k : Nat, k ≤ l.length ∧ i = .int .i64 k ∧ s = .int .u32 (reg y (l.take k) : Nat)) (fun _ i => l.length - (intOf i).toNat)
  case atStart => exact ⟨0, Nat.zero_le _, rfl, rfl⟩
  case round =>
    obtain ⟨k, hk, rfl, rfl⟩ := hrel
    have hs := reg_lt (l.take k) hy
    by_cases hlt : k < l.length
    · obtain ⟨b, o, rfl, hcell⟩ := hl.at hlt
      have hb := byte_lt l[k]
      have hstep := Lib.hid (reg_snoc y l k hlt)
      generalize hsv : reg y (l.take k) = s at hs ⊢ hstep
      have HSV := Lib.hid hsv; clear hsv
      generalize hcv : l[k] = c at hcell hb hstep
      have HCV := Lib.hid hcv; clear hcv
      have hx0 := xor_lt hs (Nat.lt_trans hb (by decide))
      have hxb := u32_xor_nat s c.toNat hs (Nat.lt_trans hb (by decide))
      go_wp2
      go_loop [5, 7] (fun s' i => ∃ j : Nat, j ≤ 8 ∧ i = .int .i64 j ∧ s' = .int .u32 (it stp j (s ^^^ c.toNat) : Nat)) (fun _ i => 8 - (intOf i).toNat)
      case atStart => exact ⟨0, by omega, rfl, rfl⟩
      case round =>
        obtain ⟨j, hj, rfl, rfl⟩ := hrel
        have hs' := it_lt (fun _ h => stp_lt h) j hx0
        have hst : Hid (it stp (j + 1) (s ^^^ c.toNat) = stp (it stp j (s ^^^ c.toNat))) := rfl
        generalize hjv : it stp j (s ^^^ c.toNat) = t at hs' ⊢ hst
        have HJV := Lib.hid hjv; clear hjv hxb
        by_cases hlt8 : j < 8
        · by_cases hodd : t % 2 = 1
          · have hd : (((t : Int) % 2 == 1) = true) := by simp; omega
            go_wp2
            go_round
            case rel => exact ⟨j + 1, by omega, by go_num, by rw [hst.out, stp_odd hs' hodd]⟩
            case measure => simp [intOf]; omega
          · have hd : (((t : Int) % 2 == 1) = false) := by simp; omega
            go_wp2
            go_round
            case rel => exact ⟨j + 1, by omega, by go_num, by rw [hst.out, stp_even hodd]⟩
            case measure => simp [intOf]; omega
        · have hj8 : j = 8 := by omega
          have HJ8 := Lib.hid hj8; clear hj8
          go_wp2
          go_round
          case rel => exact ⟨k + 1, by omega, by go_num, by rw [hstep.out, byt, ← HJV.out, HJ8.out]⟩
          case measure => simp [intOf]; omega
    · have hend : reg y (l.take k) = reg y l := by rw [List.take_of_length_le (by omega)]
      have HEND := Lib.hid hend; clear hend
      go_wp2
      go_ret
      refine ⟨?_, rfl⟩
      show Ending.returned (.int .u32 (4294967295 - (reg y (l.take k) : Nat))) = _
      congr 2
      rw [HEND.out] at hs ⊢
      unfold extF; rw [HXY.out]; omega
theorem half_val {x : Nat} (hx : x < 4294967296) : Value.int .u32 (bits .xor .u32 ((x : Int) / 16) (it stp 4 (x % 16) : Nat)) = .int .u32 (it stp 4 x : Nat) := by
  have h1 : it stp 4 (x % 16) < 4294967296 := it_lt (fun _ h => stp_lt h) 4 (by omega)
  have := u32_xor_nat (x / 16) (it stp 4 (x % 16)) (by omega) h1
  have e : ((x : Int) / 16) = ((x / 16 : Nat) : Int) := by omega
  rw [e, this, ← four_bits]

set_option maxHeartbeats 400000 in
theorem half_any (x : Nat) (hx : x < 4294967296) (bs bl : Nat) (w : World) (hs : w.cell? ⟨bs, 0, none⟩ = some (.int .u32 x)) (hf : w.frozen? ⟨bs, 0, none⟩ = false)
   (ht : w.cell? ⟨bl, x % 16, none⟩ = some (.int .u32 (it stp 4 (x % 16) : Nat))) :
    Calls Tryd.prog 81 #[.pointer (some ⟨bs, 0, none⟩), .pointer (some ⟨bl, 0, none⟩)] w fun e w' => e = .returned (.tuple #[]) ∧ (w.setCell ⟨bs, 0, none⟩ (.int .u32 (it stp 4 x : Nat))).drew = w' := by
  have hb : bits .and .u32 (x : Int) 15 = (x % 16 : Nat) := by
    have := u32_and_nat x 15 hx (by omega)
    rw [show ((15 : Int)) = ((15 : Nat) : Int) from rfl, this]
    congr 1
    exact Nat.and_two_pow_sub_one_eq_mod x 4
  go_enter Tryd.func81, Tryd.ntmps81
  go_region
  rw [half_val hx]
  go_end0
  exact ⟨rfl, rfl⟩

def arrI (k : Nat) : Array Value := ((List.range 16).map fun j => if j < k then Value.int .u32 (it stp 4 j : Nat) else .int .u32 0).toArray
theorem arr_size (k : Nat) : (arrI k).size = 16 := by simp [arrI]
theorem arr_get (k j : Nat) (h : j < 16) : (arrI k)[j]? = some (if j < k then Value.int .u32 (it stp 4 j : Nat) else .int .u32 0) := by simp [arrI, h]
theorem arr_set (k : Nat) (h : k < 16) : (arrI k).setIfInBounds k (.int .u32 (it stp 4 k : Nat)) = arrI (k + 1) := by
  apply Array.ext_getElem?
  intro j
  by_cases hj : j < 16
  · rw [arr_get _ _ hj, Array.getElem?_setIfInBounds, arr_size, arr_get _ _ hj]
    by_cases e : k = j
    · subst e; simp [h]
    · simp [e]; by_cases h2 : j < k
      · simp [h2, show j < k + 1 by omega]
      · simp [h2, show ¬ j < k + 1 by omega]
  · rw [Array.getElem?_eq_none (by simp [arr_size]; omega), Array.getElem?_eq_none (by simp [arr_size]; omega)]

theorem arr_one : ∀ v ∈ (arrI 16).toList, v.oneCell' = true := by
  intro v hv
  simp only [arrI, List.mem_map, List.mem_range] at hv
  obtain ⟨j, hj, rfl⟩ := hv
  split <;> rfl

theorem stp_mul (t : Nat) : stp t = t / 2 ^^^ (2197175160 * (t % 2)) := by
  unfold stp
  rcases Nat.mod_two_eq_zero_or_one t with e | e <;> simp [e]

theorem steps_val {t : Nat} (h : t < 4294967296) : Value.int .u32 (bits .xor .u32 ((t : Int) / 2) (2197175160 * bits .and .u32 (t : Int) 1 % 4294967296)) = .int .u32 (stp t : Nat) := by
  have h1 : bits .and .u32 (t : Int) 1 = ((t % 2 : Nat) : Int) := by
    have := u32_and_nat t 1 h (by omega)
    rw [show ((1 : Int)) = ((1 : Nat) : Int) from rfl, this]
    congr 1
    exact Nat.and_two_pow_sub_one_eq_mod t 1
  have h2 : (2197175160 * ((t % 2 : Nat) : Int) % 4294967296) = ((2197175160 * (t % 2) : Nat) : Int) := by omega
  have e : ((t : Int) / 2) = ((t / 2 : Nat) : Int) := by omega
  rw [h1, h2, e, u32_xor_nat _ _ (by omega) (by omega), stp_mul]

set_option maxHeartbeats 400000 in
theorem steps_any (w : World) :
    Calls Tryd.prog 80 #[] w fun e w' => e = .returned (.agg (arrI 16)) ∧ Ext w w' := by
  go_enter Tryd.func80, Tryd.ntmps80
  go_wp2
  go_loopw [5] (fun i wr => ∃ k : Nat, k ≤ 16 ∧ i = .int .i64 k ∧ wr.heap[w.heap.size + 1]? = some (.cells (arrI k) 128 (0, 0)) ∧ Ext w wr ∧ ∃ cs, wr.heap[w.heap.size]? = some (.cells cs 128 (0, 0)) ∧ cs.size = 16) (fun i _ => 16 - (intOf i).toNat)
  case atStart =>
    refine ⟨0, by omega, rfl, ?_, ((Ext.refl w).alloc _).alloc _, _, heap_alloc2_old _ _ _, rfl⟩
    rw [heap_alloc2_new]; rfl
  case round =>
    obtain ⟨k, hk, rfl, hblk, hext, cs, hres, hcs⟩ := hrel
    by_cases hlt : k < 16
    · have hd16 : decide ((k : Int) < 16) = true := by simp; omega
      go_wp2
      go_loop [3, 10] (fun s j => ∃ m : Nat, m ≤ 4 ∧ j = .int .i64 m ∧ s = .int .u32 (it stp m k : Nat)) (fun _ j => 4 - (intOf j).toNat)
      case atStart => exact ⟨0, by omega, rfl, rfl⟩
      case round =>
        obtain ⟨m, hm, rfl, rfl⟩ := hrel
        have ht : it stp m k < 4294967296 := it_lt (fun _ h => stp_lt h) m (by omega)
        have hst : Hid (it stp (m + 1) k = stp (it stp m k)) := rfl
        by_cases hlt4 : m < 4
        · have hd4 : decide ((m : Int) < 4) = true := by simp; omega
          generalize hjv : it stp m k = t at ht ⊢ hst
          have HJV := Lib.hid hjv; clear hjv
          go_wp2
          go_round
          case rel =>
            refine ⟨m + 1, by omega, by go_num, ?_⟩
            rw [steps_val ht, hst.out]
          case measure => simp [intOf]; omega
        · have hd4 : decide ((m : Int) < 4) = false := by simp; omega
          obtain rfl : m = 4 := by omega
          clear hst
          have hcell := cell_of_row wr (w.heap.size + 1) k _ _ _ hblk
          rw [arr_get _ _ hlt, if_neg (by omega)] at hcell
          have hfr : wr.frozen? ⟨w.heap.size + 1, k, none⟩ = false := by simp [World.frozen?, hblk]
          have H1 := Lib.hid hblk; have H2 := Lib.hid hres; clear hblk hres
          go_wp2
          go_roundw
          case rel =>
            refine ⟨k + 1, by omega, by go_num, ?_, hext.setCell (Nat.le_succ _) _, cs, ?_, hcs⟩
            · rw [heap_setCell_same _ _ _ _ _ _ H1.out, arr_set k hlt]
            · rw [Below.heap_setCell _ _ _ _ (by simp)]; exact H2.out
          case measure => simp [intOf]; omega
    · have hd16 : decide ((k : Int) < 16) = false := by simp; omega
      obtain rfl : k = 16 := by omega
      have hne : w.heap.size + 1 ≠ w.heap.size := by omega
      have hsz : cs.size = (arrI 16).size := by rw [hcs, arr_size]
      have H1 := Lib.hid hblk; have H2 := Lib.hid hres; have H3 := Lib.hid hsz; clear hblk hres hsz hcs hne
      go_wp2_with (first | (refine wpList_load_row rfl 128 _ rfl _ rfl _ _ _ _ H1.out Tryd.underlying128 rfl (by rw [arr_size]; kernel_rfl) ?_) | (refine wpList_store_whole 128 _ _ rfl rfl _ rfl _ rfl _ _ H2.out H3.out (by rw [arr_size]; kernel_rfl) arr_one ?_))
      go_outline
      refine bodyPost_ret (v := .agg (arrI 16)) (results_cell_row rfl _ _ (w.heap.size) 128 (arrI 16) (0, 0) _ rfl (setRow_heap _ _ _ _ _ _ H2.out) Tryd.underlying128 rfl (by rw [arr_size]; kernel_rfl)) rfl ⟨rfl, ?_⟩
      exact hext.setRow (Nat.le_refl _) _
theorem not_u32 {x : Nat} (h : x < 4294967296) : Value.int .u32 (bits .xor .u32 IntKind.u32.max (x : Int)) = .int .u32 (4294967295 - x : Nat) := by
  have e : IntKind.u32.max = ((4294967295 : Nat) : Int) := by decide
  rw [e, u32_xor_nat _ _ (by omega) h]
  congr 2
  apply Nat.eq_of_testBit_eq
  intro i
  have h2 : (4294967295 - x).testBit i = (decide (i < 32) && !x.testBit i) := by
    have := Nat.testBit_two_pow_sub_succ (x := x) (n := 32) (by omega) i
    rw [show 2 ^ 32 - (x + 1) = 4294967295 - x by omega] at this
    exact this
  have h3 : Nat.testBit 4294967295 i = decide (i < 32) := by
    have := Nat.testBit_two_pow_sub_one 32 i
    simpa using this
  rw [Nat.testBit_xor, h2, h3]
  by_cases hi : i < 32
  · simp [hi]
  · have : x.testBit i = false := Nat.testBit_lt_two_pow (Nat.lt_of_lt_of_le h (show 2 ^ 32 ≤ 2 ^ i from Nat.pow_le_pow_right (by omega) (by omega)))
    simp [hi, this]

/-- Where the register and the table stand while Extend runs. -/
structure Crc (W : World) (B : Nat) (s : Nat) (w : World) : Prop where
  ext : Ext W w
  le : W.heap.size ≤ B
  tab : w.heap[B]? = some (.cells (arrI 16) 128 (0, 0))
  sum : w.heap[B + 1]? = some (.cells #[.int .u32 (s : Nat)] 96 (0, 0))

theorem Crc.set {W w : World} {B s : Nat} (h : Crc W B s w) (t : Nat) : Crc W B t (w.setCell ⟨B + 1, 0, none⟩ (.int .u32 (t : Nat))) :=
  ⟨h.ext.setCell (Nat.le_succ_of_le h.le) _, h.le, by rw [Below.heap_setCell _ _ _ _ (by simp)]; exact h.tab, by rw [heap_setCell_same _ _ _ _ _ _ h.sum]; rfl⟩
theorem Crc.drew {W w : World} {B s : Nat} (h : Crc W B s w) : Crc W B s w.drew := ⟨h.ext.drew, h.le, h.tab, h.sum⟩
theorem Crc.cell {W w : World} {B s : Nat} (h : Crc W B s w) : w.cell? ⟨B + 1, 0, none⟩ = some (.int .u32 (s : Nat)) := by rw [cell_of_row _ _ _ _ _ _ h.sum]; rfl
theorem Crc.thaw {W w : World} {B s : Nat} (h : Crc W B s w) : w.frozen? ⟨B + 1, 0, none⟩ = false := by simp [World.frozen?, h.sum]
theorem Crc.at {W w : World} {B s : Nat} (h : Crc W B s w) (x : Nat) : w.cell? ⟨B, x % 16, none⟩ = some (.int .u32 (it stp 4 (x % 16) : Nat)) := by
  rw [cell_of_row _ _ _ _ _ _ h.tab, arr_get _ _ (by omega), if_pos (by omega)]

theorem half_crc {W w : World} {B s : Nat} (h : Crc W B s w) (hs : s < 4294967296) :
    Calls Tryd.prog 81 #[.pointer (some ⟨B + 1, 0, none⟩), .pointer (some ⟨B, 0, none⟩)] w fun e w' => e = .returned (.tuple #[]) ∧ Crc W B (it stp 4 s) w' :=
  (half_any s hs (B + 1) B w h.cell h.thaw (h.at s)).mono fun _ _ ⟨he, hw⟩ => ⟨he, hw ▸ (h.set _).drew⟩

set_option maxHeartbeats 400000 in
theorem extend_any (x : Nat) (w : World) (v : Value) (l : List UInt8) (hl : Bytes w v l) (hx : x < 4294967296) :
    Calls Tryd.prog 73 #[.int .u32 x, v] w fun e w' => e = .returned (.int .u32 (extF x l)) ∧ Ext w w' := by
  obtain ⟨a, cap, rfl, hc, hm⟩ := hl.shape
  unfold maxLen at hm
  go_enter Tryd.func73, Tryd.ntmps73
  go_wp2_with (first | (go_at_call 80; refine (steps_any _).mono ?_; rintro e w1 ⟨rfl, hx1⟩) | (refine wpList_store_whole 128 _ _ rfl rfl _ rfl _ rfl _ _ (heap_alloc_new _ _) (by rw [arr_size]; rfl) (by rw [arr_size]; kernel_rfl) arr_one ?_; rw [World.setRow_alloc_new]))
  rw [not_u32 hx]
  have hcrc : Crc w w1.heap.size (4294967295 - x) ((w1.alloc (.cells (arrI 16) 128)).alloc (.cells #[.int .u32 (4294967295 - x : Nat)] 96)) :=
    ⟨(hx1.alloc _).alloc _, hx1.size, heap_alloc2_old _ _ _, heap_alloc2_new _ _ _⟩
  generalize (w1.alloc (.cells (arrI 16) 128)).alloc (.cells #[.int .u32 (4294967295 - x : Nat)] 96) = w2 at hcrc ⊢
  generalize w1.heap.size = B at hcrc ⊢
  clear hx1 w1
  have hy : 4294967295 - x < 4294967296 := by omega
  generalize hxy : 4294967295 - x = y at hy hcrc ⊢
  have HXY := Lib.hid hxy; clear hxy
  go_loopw [16] (fun i wr => ∃ k : Nat, k ≤ l.length ∧ i = .int .i64 k ∧ Crc w B (reg y (l.take k)) wr) (fun i _ => l.length - (intOf i).toNat)
  case atStart => exact ⟨0, Nat.zero_le _, rfl, hcrc⟩
  case round =>
    clear hcrc
    obtain ⟨k, hk, rfl, hcrc⟩ := hrel
    by_cases hlt : k < l.length
    · obtain ⟨b, o, rfl, hcell⟩ := hl.at hlt
      have hcell := hcrc.ext.cell hcell
      have hb := byte_lt l[k]
      have hstep := Lib.hid (reg_snoc y l k hlt)
      have hs := reg_lt (l.take k) hy
      generalize hsv : reg y (l.take k) = s at hs hcrc ⊢ hstep
      clear hsv
      generalize hcv : l[k] = c at hcell hb hstep
      clear hcv
      have h1 := hcrc.cell; have h2 := hcrc.thaw
      have hx0 := xor_lt hs (Nat.lt_trans hb (by decide))
      have hxb := u32_xor_nat s c.toNat hs (Nat.lt_trans hb (by decide))
      go_wp2_with fail
      clear h1 h2 hxb
      refine (half_crc (hcrc.set _) hx0).mono ?_
      rintro e w3 ⟨rfl, hc3⟩
      go_wp2_with fail
      refine (half_crc hc3 (it_lt (fun _ h => stp_lt h) 4 hx0)).mono ?_
      rintro e w4 ⟨rfl, hc4⟩
      clear hc3 hcrc
      go_wp2_with fail
      go_roundw
      case rel => exact ⟨k + 1, by omega, by go_num, by rw [hstep.out, byt, it_add stp 4 4]; exact hc4⟩
      case measure => simp [intOf]; omega
    · have h1 := hcrc.cell
      have hend : Hid (reg y (l.take k) = reg y l) := by rw [List.take_of_length_le (by omega)]; rfl
      have hs := reg_lt (l.take k) hy
      go_wp2_with fail
      rw [not_u32 hs]
      go_ret
      refine ⟨?_, hcrc.ext⟩
      show Ending.returned (.int .u32 (4294967295 - reg y (l.take k) : Nat)) = _
      rw [hend.out, ← HXY.out]; rfl

set_option maxHeartbeats 400000 in
theorem sum_any (w : World) (v : Value) (l : List UInt8) (hl : Bytes w v l) :
    Calls Tryd.prog 63 #[v] w fun e w' => e = .returned (.int .u32 (sumF l)) ∧ Ext w w' := by
  go_enter Tryd.func63, Tryd.ntmps63
  go_wp2_with fail
  refine (extend_any 0 w v l hl (by omega)).mono ?_
  rintro e w1 ⟨rfl, hx1⟩
  go_wp2_with fail
  go_ret
  exact ⟨rfl, hx1⟩

set_option maxHeartbeats 400000 in
theorem ref_sum (w : World) (v : Value) (l : List UInt8) (hl : Bytes w v l) :
    Calls Tryd.prog 64 #[v] w fun e w' => e = .returned (.int .u32 (sumF l)) ∧ w = w' := by
  go_enter Tryd.func64, Tryd.ntmps64
  go_wp2_with fail
  refine (ref_extend 0 w v l hl (by omega)).mono ?_
  rintro e w1 ⟨rfl, rfl⟩
  go_wp2_with fail
  go_ret
  exact ⟨rfl, rfl⟩

end Go.Proofs.YtkaepcjkpaplfaaDoor
