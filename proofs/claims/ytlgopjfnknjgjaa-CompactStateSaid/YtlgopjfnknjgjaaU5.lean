/- reverseRangeOrdered (57) and heapSortOrdered (54) at uint64. -/
import Derived.Test.YtlgopjfnknjgjaaU4
namespace Go.Proofs.Ytlgopjfnknjgjaa
open Go.RowKit

theorem rev_go {d : Array Nat} {i j : Nat} (h : i < j) : Sort.reverseLoop i j d = Sort.reverseLoop (i + 1) (j - 1) (Sort.swp d i j) := by
  conv => lhs; unfold Sort.reverseLoop
  rw [if_pos h]
theorem rev_end {d : Array Nat} {i j : Nat} (h : ¬ i < j) : Sort.reverseLoop i j d = d := by
  unfold Sort.reverseLoop; rw [if_neg h]

theorem sift_size (hi first : Nat) : ∀ (n root : Nat) (d : Array Nat), hi - root ≤ n → (Sort.siftDown ltN hi first root d).size = d.size
  | n, root, d, hn => by
    by_cases h : 2 * root + 1 < hi
    · cases hl : ltN d[first + root]! d[first + childF d hi first root]! with
      | false => rw [sift_no h rfl hl]
      | true =>
        rw [sift_go h rfl hl]
        cases n with
        | zero => omega
        | succ n =>
          have hc : root < childF d hi first root := by unfold childF; split <;> omega
          rw [sift_size hi first n _ _ (by omega), swp_size]
    · rw [sift_stop h]

set_option maxRecDepth 100000 in
set_option maxHeartbeats 8000000 in
theorem reverse_any (base g cap : Nat) (d : Array Nat) (a b : Nat) (w : World) (ho : UO base g cap w d) (hab : a < b) (hb : b ≤ d.size) (hsz : d.size ≤ 1000000) :
    Calls Try.prog 57 #[.slice (some ⟨g, 0, none⟩) d.size cap, .int .i64 a, .int .i64 b] w fun e w' => e = .returned (.tuple #[]) ∧ UOq base g cap w (Sort.reverseRange d a b) w' := by
  have HO := Lib.hid ho
  clear ho
  generalize hN : d.size = N at *
  have HN := Lib.hid hN
  clear hN
  obtain ⟨b1, hb1⟩ : ∃ b1, b1 = b - 1 := ⟨_, rfl⟩
  have q1 : (b : Int) - 1 = (b1 : Int) := by omega
  have HB1 := Lib.hid hb1
  have hb2 : b1 < N := by omega
  clear hb1
  go_enter Try.func57, Try.ntmps57
  go_wp2_with fail
  go_loopw [6, 7] (fun iv jv wr => ∃ i j : Nat, iv = .int .i64 i ∧ jv = .int .i64 j ∧ i ≤ N ∧ j < N ∧ Hid (∃ dk : Array Nat, dk.size = N ∧ UO base g cap wr dk ∧ w.grownBy wr (some g) ∧ Sort.reverseLoop i j dk = Sort.reverseRange d a b)) (fun iv jv _ => (intOf jv).toNat + 1 - (intOf iv).toNat)
  case atStart => exact ⟨a, b1, rfl, rfl, by omega, hb2, d, HN.out, HO.out, grown_refl _ _, by unfold Sort.reverseRange; rw [HB1.out]⟩
  case round =>
    clear HO
    obtain ⟨i, j, rfl, rfl, hi1, hj1, hst⟩ := hrel
    obtain ⟨dk, e1, e2, e3, e4⟩ := hst.out
    have E1 := Lib.hid e1
    have E2 := Lib.hid e2
    have E3 := Lib.hid e3
    have E4 := Lib.hid e4
    clear e1 e2 e3 e4 hst
    by_cases h : i < j
    · have hI : decide ((i : Int) < (j : Int)) = true := decide_eq_true (by omega)
      have k0 := E2.out.cell (i := i) (by rw [E1.out]; omega)
      have k1 := E2.out.cell (i := j) (by rw [E1.out]; omega)
      have z0 := E2.out.free i
      have z1 := E2.out.free j
      have hw := uO_swp E2.out (i := i) (j := j) (by rw [E1.out]; omega) (by rw [E1.out]; omega)
      have HW := Lib.hid hw
      have HS := Lib.hid (rev_go (d := dk) h)
      have hi2 : (i : Int) < (N : Int) := by omega
      have hj2 : (j : Int) < (N : Int) := by omega
      obtain ⟨j1, hj3⟩ : ∃ j1, j1 = j - 1 := ⟨_, rfl⟩
      have q2 : (j : Int) - 1 = (j1 : Int) := by omega
      have HJ := Lib.hid hj3
      clear hw hj3
      generalize dk[i]! = x0 at *
      generalize dk[j]! = x1 at *
      go_upto_region 3 with fail
      go_region
      obtain ⟨h1, h2⟩ := HW.out
      have H1 := Lib.hid (h1.ext (Ext.refl _).drew)
      have H2 := Lib.hid (grown_trans (grown_trans E3.out h2) (grown_of_ext (Ext.refl _).drew))
      clear h1 h2 k0 k1 z0 z1
      generalize World.drew _ = wn at *
      go_wp2_with fail
      go_roundw
      case rel => exact ⟨i + 1, j1, by go_num, rfl, by omega, by have := HJ.out; omega, _, (swp_size _ _ _).trans E1.out, H1.out, H2.out, by rw [HJ.out, ← HS.out]; exact E4.out⟩
      case measure => have := HJ.out; simp [intOf]; omega
    · have hI : decide ((i : Int) < (j : Int)) = false := decide_eq_false (by omega)
      go_wp2_with fail
      go_end0
      have := E4.out
      rw [rev_end h] at this
      exact ⟨rfl, by rw [← this]; exact E2.out, E3.out⟩

set_option maxRecDepth 100000 in
set_option maxHeartbeats 8000000 in
theorem heap_any (base g cap : Nat) (d : Array Nat) (a b : Nat) (w : World) (ho : UO base g cap w d) (hab : a < b) (hb : b ≤ d.size) (hsz : d.size ≤ 1000000) :
    Calls Try.prog 54 #[.slice (some ⟨g, 0, none⟩) d.size cap, .int .i64 a, .int .i64 b] w fun e w' => e = .returned (.tuple #[]) ∧ UOq base g cap w (Sort.heapSort ltN d a b) w' := by
  have HO := Lib.hid ho
  clear ho
  generalize hN : d.size = N at *
  have HN := Lib.hid hN
  clear hN
  obtain ⟨h0, hh0⟩ : ∃ h, h = b - a := ⟨_, rfl⟩
  obtain ⟨m0, hm0⟩ : ∃ m, m = (h0 - 1) / 2 := ⟨_, rfl⟩
  have q1 : (b : Int) - (a : Int) = (h0 : Int) := by omega
  obtain ⟨h1, hh1⟩ : ∃ h, h = h0 - 1 := ⟨_, rfl⟩
  have q2 : (h0 : Int) - 1 = (h1 : Int) := by omega
  have q3 : (h1 : Int) / 2 = (m0 : Int) := by omega
  have HH0 := Lib.hid hh0
  have HH1 := Lib.hid hh1
  have HM0 := Lib.hid hm0
  have hpos : 0 < h0 := by omega
  have hm1 : m0 < h0 := by omega
  have hsum : a + h0 ≤ N := by omega
  clear hh0 hh1 hm0
  go_enter Try.func54, Try.ntmps54
  go_wp2_with fail
  go_loopw [9] (fun iv wr => ∃ i : Int, iv = .int .i64 i ∧ -1 ≤ i ∧ i ≤ (m0 : Int) ∧ Hid (∃ dk : Array Nat, dk.size = N ∧ UO base g cap wr dk ∧ w.grownBy wr (some g) ∧ Sort.heapPop ltN a h0 (Sort.heapBuild ltN h0 a (i + 1).toNat dk) = Sort.heapSort ltN d a b)) (fun iv _ => (intOf iv + 1).toNat)
  case atStart => exact ⟨m0, rfl, by omega, Int.le_refl _, d, HN.out, HO.out, grown_refl _ _, by unfold Sort.heapSort; rw [← HH0.out]; congr 2; have := HM0.out; omega⟩
  case round =>
    clear HO
    obtain ⟨i, rfl, hi1, hi2, hst⟩ := hrel
    obtain ⟨dk, e1, e2, e3, e4⟩ := hst.out
    have E1 := Lib.hid e1
    have E3 := Lib.hid e3
    have E4 := Lib.hid e4
    by_cases h : 0 ≤ i
    · obtain ⟨n, rfl⟩ : ∃ n : Nat, i = (n : Int) := ⟨i.toNat, by omega⟩
      have hI : decide ((0 : Int) ≤ (n : Int)) = true := decide_eq_true (by omega)
      have hc := sift_any base g cap dk n h0 a wr e2 (by omega) (by omega) (by omega)
      rw [e1] at hc
      have HC := Lib.hid hc
      clear e1 e2 e3 e4 hst hc
      go_wp2_with ((with_reducible refine HC.out.mono ?_); rintro e w2 ⟨rfl, h1, h2⟩; have H1 := Lib.hid h1; have H2 := Lib.hid h2; clear h1 h2)
      go_roundw
      case rel =>
        refine ⟨(n : Int) - 1, rfl, by omega, by omega, _, ?_, H1.out, grown_trans E3.out H2.out, ?_⟩
        · rw [sift_size h0 a _ _ _ (Nat.le_refl _)]; exact E1.out
        · have := E4.out
          have e : ((n : Int) + 1).toNat = n + 1 := by omega
          have e' : ((n : Int) - 1 + 1).toNat = n := by omega
          rw [e] at this
          rw [e']
          exact this
      case measure => simp [intOf]
    · obtain rfl : i = -1 := by omega
      have hI : decide ((0 : Int) ≤ (-1 : Int)) = false := by decide
      have E2 := Lib.hid e2
      have hst2 : Hid (∃ dk : Array Nat, dk.size = N ∧ UO base g cap wr dk ∧ w.grownBy wr (some g) ∧ Sort.heapPop ltN a h0 dk = Sort.heapSort ltN d a b) := ⟨dk, e1, e2, e3, e4⟩
      clear e1 e2 e3 e4 hst E1 E2 E3 E4 h
      go_wp2_with fail
      obtain ⟨wo, rfl⟩ : ∃ wo : World, wo = wr := ⟨_, rfl⟩
      go_loopw [10] (fun iv wr => ∃ i : Int, iv = .int .i64 i ∧ -1 ≤ i ∧ i ≤ (h1 : Int) ∧ Hid (∃ dk : Array Nat, dk.size = N ∧ UO base g cap wr dk ∧ w.grownBy wr (some g) ∧ Sort.heapPop ltN a (i + 1).toNat dk = Sort.heapSort ltN d a b)) (fun iv _ => (intOf iv + 1).toNat)
      case atStart =>
        obtain ⟨dk, e1, e2, e3, e4⟩ := hst2.out
        exact ⟨h1, rfl, by omega, Int.le_refl _, dk, e1, e2, e3, by rw [← e4]; congr 1; have := HH1.out; omega⟩
      case round =>
        clear hst2
        obtain ⟨i, rfl, hi1, hi2, hst⟩ := hrel
        obtain ⟨dk, e1, e2, e3, e4⟩ := hst.out
        have E1 := Lib.hid e1
        have E2 := Lib.hid e2
        have E3 := Lib.hid e3
        have E4 := Lib.hid e4
        clear e1 e2 e3 e4 hst
        by_cases h : 0 ≤ i
        · obtain ⟨n, rfl⟩ : ∃ n : Nat, i = (n : Int) := ⟨i.toNat, by omega⟩
          have hI : decide ((0 : Int) ≤ (n : Int)) = true := decide_eq_true (by omega)
          have hnh : n < h0 := by have := HH1.out; omega
          obtain ⟨p, hp⟩ : ∃ p, p = a + n := ⟨_, rfl⟩
          have q4 : (a : Int) + (n : Int) = (p : Int) := by omega
          have ha2 : (a : Int) < (N : Int) := by omega
          have hp2 : (p : Int) < (N : Int) := by omega
          have k0 := E2.out.cell (i := a) (by rw [E1.out]; omega)
          have k1 := E2.out.cell (i := p) (by rw [E1.out]; omega)
          have z0 := E2.out.free a
          have z1 := E2.out.free p
          obtain ⟨v', hy'⟩ := cell?_setCell_some (w := wr) (p := ⟨g, a, none⟩) (x := .int .u64 dk[p]!) (q := ⟨g, p, none⟩) k1
          have hw := uO_swp E2.out (i := a) (j := p) (by rw [E1.out]; omega) (by rw [E1.out]; omega)
          have HW := Lib.hid hw
          have HP := Lib.hid hp
          clear hw hp
          generalize dk[a]! = x0 at *
          generalize dk[p]! = x1 at *
          go_upto_region 10 with fail
          go_region
          obtain ⟨h1', h2'⟩ := HW.out
          have hc := sift_any base g cap _ 0 n a _ (h1'.ext (Ext.refl _).drew) (by omega) (by rw [swp_size, E1.out]; omega) (by rw [swp_size, E1.out]; omega)
          rw [swp_size, E1.out, show ((0 : Nat) : Int) = 0 from rfl] at hc
          have HC := Lib.hid hc
          have H2 := Lib.hid (grown_trans (grown_trans E3.out h2') (grown_of_ext (Ext.refl _).drew))
          clear h1' h2' hc k0 k1 z0 z1 hy'
          generalize World.drew _ = wn at *
          go_wp2_with ((with_reducible refine HC.out.mono ?_); rintro e w2 ⟨rfl, h1, h2⟩; have H3 := Lib.hid h1; have H4 := Lib.hid h2; clear h1 h2)
          go_roundw
          case rel =>
            refine ⟨(n : Int) - 1, rfl, by omega, by omega, _, ?_, H3.out, grown_trans H2.out H4.out, ?_⟩
            · rw [sift_size n a _ _ _ (Nat.le_refl _), swp_size]; exact E1.out
            · have := E4.out
              have e : ((n : Int) + 1).toNat = n + 1 := by omega
              have e' : ((n : Int) - 1 + 1).toNat = n := by omega
              rw [e] at this
              rw [e', HP.out]
              exact this
          case measure => simp [intOf]
        · obtain rfl : i = -1 := by omega
          have hI : decide ((0 : Int) ≤ (-1 : Int)) = false := by decide
          go_wp2_with fail
          go_end0
          exact ⟨rfl, by rw [← E4.out]; exact E2.out, E3.out⟩
end Go.Proofs.Ytlgopjfnknjgjaa
