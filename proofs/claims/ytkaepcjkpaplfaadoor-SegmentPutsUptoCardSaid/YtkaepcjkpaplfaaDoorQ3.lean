/- The reference's reader of numbers, walked. -/
import Derived.Test.YtkaepcjkpaplfaaDoorS5
import Derived.Test.YtkaepcjkpaplfaaDoorN8
import Derived.Test.YtkaepcjkpaplfaaDoorN6
namespace Go.Proofs.YtkaepcjkpaplfaaDoor
open Go.RowKit

/-- What the reader leaves. -/
def RdEnd (w : World) (B : Nat) (most : Nat) (l : List UInt8) (e : Ending) (W : World) : Prop :=
  e = .returned (.tuple #[.int .u64 ((vget most l).2.1 : Nat), .int .i64 ((vget most l).1 : Nat)]) ∧ Below B w W ∧ w.heap.size ≤ W.heap.size ∧
    ∃ v', W.heap[B]? = some (.cells #[v'] 81 (0, 0)) ∧ Bytes W v' (vget most l).2.2 ∧ ((vget most l).1 = 0 → OwnB W (B + 1) v' (vget most l).2.2)
theorem RdEnd.err {w : World} {B most x : Nat} {v : Value} {l : List UInt8} (hB : w.heap[B]? = some (.cells #[v] 81 (0, 0))) (hl : Bytes w v l) (hx : x ≠ 0) (h : vget most l = (x, 0, l)) :
    RdEnd w B most l (.returned (.tuple #[.int .u64 0, .int .i64 x])) w := by
  unfold RdEnd
  rw [h]
  exact ⟨rfl, Below.refl _ _, Nat.le_refl _, v, hB, hl, fun e => absurd e hx⟩

set_option maxRecDepth 100000 in
set_option maxHeartbeats 6000000 in
theorem rrnum_any (w : World) (B : Nat) (v : Value) (l : List UInt8) (most : Nat) (hB : w.heap[B]? = some (.cells #[v] 81 (0, 0))) (hl : Bytes w v l) (hn : l.length ≤ 1000000000000) (_h64 : most < 18446744073709551616) :
    Calls Tryd.prog 38 #[.pointer (some ⟨B, 0, none⟩), .int .u64 most] w (RdEnd w B most l) := by
  obtain ⟨a, cap, rfl, hc, hm⟩ := hl.shape
  unfold maxLen at hm
  have HB := Lib.hid hB
  have hcB : w.cell? ⟨B, 0, none⟩ = some (.slice a l.length cap) := cell_of_row w B 0 _ _ _ hB
  have hfB : w.frozen? ⟨B, 0, none⟩ = false := by simp [World.frozen?, hB]
  have hBlt : B < w.heap.size := (Array.getElem?_eq_some_iff.1 hB).1
  clear hB
  go_enter Tryd.func38, Tryd.ntmps38
  go_wp2_with fail
  go_loop [6] (fun n => ∃ k : Nat, k ≤ l.length ∧ n = .int .i64 k ∧ Hid (∀ c ∈ l.take k, 128 ≤ c.toNat)) (fun n => l.length - (intOf n).toNat)
  case atStart => exact ⟨0, Nat.zero_le _, rfl, by show ∀ c ∈ l.take 0, _; simp⟩
  case round =>
    obtain ⟨k, hk, rfl, hall⟩ := hrel
    have hd10 : decide ((10 : Int) ≤ (k : Int)) = decide (10 ≤ k) := by by_cases h : 10 ≤ k; rw [decide_eq_true h]; exact decide_eq_true (by omega); rw [decide_eq_false h]; exact decide_eq_false (by omega)
    have HD10 := Lib.hid hd10
    clear hd10
    by_cases hlt : k < l.length
    · obtain ⟨b, o, rfl, hcell⟩ := hl.at hlt
      have hb := byte_lt l[k]
      by_cases hhi : 128 ≤ (l[k]).toNat
      · have hd : decide ((128 : Int) ≤ ((l[k]).toNat : Int)) = true := decide_eq_true (by omega)
        have hnext : Hid (∀ c ∈ l.take (k + 1), 128 ≤ c.toNat) := by
          show ∀ c ∈ l.take (k + 1), _
          intro c hc
          rw [List.take_succ_eq_append_getElem hlt] at hc
          rcases List.mem_append.1 hc with hc | hc
          · exact hall.out c hc
          · rw [List.mem_singleton.1 hc]; exact hhi
        generalize l[k] = c at *
        go_wp2_with fail
        go_round
        case rel => exact ⟨k + 1, hlt, by go_num, hnext⟩
        case measure => simp [intOf]; omega
      · have hd : decide ((128 : Int) ≤ ((l[k]).toNat : Int)) = false := decide_eq_false (by omega)
        by_cases h10 : 10 ≤ k
        · have hv := Lib.hid (vget_ten most l k hk hall.out h10)
          have hd10 : decide ((10 : Int) ≤ (k : Int)) = true := decide_eq_true (by omega)
          clear HD10
          generalize l[k] = c at *
          go_wp2_with fail
          go_ret2
          exact RdEnd.err HB.out hl (by decide) hv.out
        · have hd10 : decide ((10 : Int) ≤ (k : Int)) = false := decide_eq_false (by omega)
          have hv := vget_at most l k hlt hall.out (by omega) (by omega)
          have hne : ((k : Int) == (l.length : Int)) = false := beq_eq_false_iff_ne.2 (by omega)
          have hql : (l.take (k + 1)).length = k + 1 := by rw [List.length_take]; omega
          have hqk : ∀ j, (hj : j < (l.take (k + 1)).length) → (l.take (k + 1))[j] = l[j]'(by rw [hql] at hj; omega) := fun j hj => List.getElem_take
          clear HD10
          by_cases hbad : k = 9 ∧ 1 < (l[k]).toNat
          · obtain ⟨rfl, hb1⟩ := hbad
            rw [if_pos ⟨rfl, hb1⟩] at hv
            have hv := Lib.hid hv
            have hd9 : decide ((1 : Int) < ((l[9]).toNat : Int)) = true := decide_eq_true (by omega)
            have hmod : (((l[9]).toNat : Int) % 128) = ((l[9]).toNat : Int) := by omega
            generalize l[9] = c at *
            go_wp2_with fail
            go_loop [7, 8, 9] (fun s i _ => s = .int .u64 0 ∧ i = .int .i64 9) (fun _ _ _ => 0)
            case atStart => exact ⟨rfl, rfl⟩
            case round =>
              obtain ⟨rfl, rfl⟩ := hrel
              go_wp2_with fail
              go_ret2
              exact RdEnd.err HB.out hl (by decide) hv.out
          · rw [if_neg hbad] at hv
            have hmod9 : ∀ h : 9 < (l.take (k + 1)).length, ((l.take (k + 1))[9]).toNat ≤ 1 := fun h => by
              rw [hqk 9 h]
              rw [hql] at h
              have e : k = 9 := by omega
              subst e
              rcases Nat.lt_or_ge 1 (l[9]).toNat with h' | h'
              · exact absurd ⟨rfl, h'⟩ hbad
              · exact h'
            have hstep : ∀ j, j < k + 1 → ∀ hj : j < l.length, lowS ((l.take (k + 1)).drop j) = 128 * lowS ((l.take (k + 1)).drop (j + 1)) + (l[j]).toNat % 128 := fun j hj hjl => by
              rw [lowS_step _ _ (by rw [hql]; exact hj), hqk]
            have h64 : ∀ j, lowS ((l.take (k + 1)).drop j) < 18446744073709551616 := fun j => lowS_64 _ j (by rw [hql]; omega) hmod9
            have hend : Hid (lowS ((l.take (k + 1)).drop (k + 1)) = 0) := by show _ = _; rw [List.drop_of_length_le (by rw [hql]; exact Nat.le_refl _)]; rfl
            have hzero : Hid (lowS ((l.take (k + 1)).drop 0) = lowS (l.take (k + 1))) := rfl
            have HS := Lib.hid hstep
            have H6 := Lib.hid h64
            have hc0 : (l[k]).toNat < 128 := by omega
            clear hstep h64 hmod9 hqk hql
            generalize hLE : l.take (k + 1) = q at *
            have HLE := Lib.hid hLE
            clear hLE
            have hbk := hbad
            clear hbad
            go_wp2_with fail
            go_loop [7, 8, 9] (fun s i _ => ∃ (m : Nat), m ≤ k + 1 ∧ s = .int .u64 (lowS (q.drop m) : Nat) ∧ i = .int .i64 ((m : Int) - 1)) (fun _ i _ => (intOf i + 1).toNat)
            case atStart => exact ⟨k + 1, Nat.le_refl _, by rw [hend.out]; rfl, by go_num⟩
            case round =>
              obtain ⟨m, hmk, rfl, rfl⟩ := hrel
              cases m with
              | zero =>
                rw [show (((0 : Nat) : Int) - 1) = -1 from rfl, hzero.out]
                generalize lowS q = S at *
                clear hzero hend HS H6 hbk
                generalize l[k] = c at *
                by_cases hz : 0 < k ∧ c.toNat = 0
                · rw [if_pos hz] at hv
                  have hv := Lib.hid hv
                  obtain ⟨hk0, hcz⟩ := hz
                  have hd1 : decide ((0 : Int) < (k : Int)) = true := decide_eq_true (by omega)
                  have hd1n : decide (0 < k) = true := decide_eq_true hk0
                  have hd2 : ((c.toNat : Int) == 0) = true := beq_iff_eq.2 (by omega)
                  go_wp2_with fail
                  go_ret2
                  exact RdEnd.err HB.out hl (by decide) hv.out
                · rw [if_neg hz] at hv
                  by_cases hmo : most < S
                  · rw [if_pos hmo] at hv
                    have hv := Lib.hid hv
                    have hd3 : decide ((most : Int) < (S : Int)) = true := decide_eq_true (by omega)
                    have hd3n : decide (most < S) = true := decide_eq_true hmo
                    by_cases hk0 : 0 < k
                    · have hd1 : decide ((0 : Int) < (k : Int)) = true := decide_eq_true (by omega)
                      have hd1n : decide (0 < k) = true := decide_eq_true hk0
                      have hd2 : ((c.toNat : Int) == 0) = false := beq_eq_false_iff_ne.2 (fun e => hz ⟨hk0, by omega⟩)
                      clear hz
                      go_wp2_with fail
                      go_ret2
                      exact RdEnd.err HB.out hl (by decide) hv.out
                    · have hd1 : decide ((0 : Int) < (k : Int)) = false := decide_eq_false (by omega)
                      have hd1n : decide (0 < k) = false := decide_eq_false hk0
                      clear hz
                      go_wp2_with fail
                      go_ret2
                      exact RdEnd.err HB.out hl (by decide) hv.out
                  · rw [if_neg hmo] at hv
                    have hv := Lib.hid hv
                    have hd3 : decide ((most : Int) < (S : Int)) = false := decide_eq_false (by omega)
                    have hd3n : decide (most < S) = false := decide_eq_false hmo
                    have hdrop : (l.take l.length).drop (k + 1) = l.drop (k + 1) := by rw [List.take_length]
                    have hlt1 : k + 1 ≤ l.length := hlt
                    have fin : ∀ (e : Ending) (W : World) (va : Value), OwnB W (B + 1) va (l.drop (k + 1)) → Below B w W → w.heap.size ≤ W.heap.size → W.heap[B]? = some (.cells #[va] 81 (0, 0)) → e = .returned (.tuple #[.int .u64 S, .int .i64 0]) → RdEnd w B most l e W := fun e W va h1 h2 h3 h4 h5 => by
                      unfold RdEnd
                      rw [hv.out]
                      exact ⟨h5, h2, h3, va, h4, h1.bytes, fun _ => h1⟩
                    have HF := Lib.hid fin
                    have h53 : (l.drop (k + 1)).length ≤ 140737488355328 := by rw [List.length_drop]; omega
                    clear fin hv
                    by_cases hk0 : 0 < k
                    · have hd1 : decide ((0 : Int) < (k : Int)) = true := decide_eq_true (by omega)
                      have hd1n : decide (0 < k) = true := decide_eq_true hk0
                      have hd2 : ((c.toNat : Int) == 0) = false := beq_eq_false_iff_ne.2 (fun e => hz ⟨hk0, by omega⟩)
                      clear hz
                      go_wp2_with (refine cutB (.tmp 81) (some (.tmp 83)) none (k + 1) l.length rfl rfl hl ⟨_, _, rfl, by omega, by omega⟩ rfl hlt1 (Nat.le_refl _) ?_; intro v84 h84; rw [hdrop] at h84)
                      refine (own03_any _ v84 _ h84 h53).mono ?_
                      rintro e W ⟨va, rfl, ho, hx⟩
                      obtain ⟨aa, ca, rfl, -, -⟩ := ho.bytes.shape
                      rw [List.length_drop] at ho
                      have hBW : W.heap[B]? = some (.cells #[.slice (some ⟨b, o, none⟩) l.length cap] 81 (0, 0)) := by rw [hx.block B hBlt]; exact HB.out
                      have hcW : W.cell? ⟨B, 0, none⟩ = some (.slice (some ⟨b, o, none⟩) l.length cap) := cell_of_row W B 0 _ _ _ hBW
                      have hfW : W.frozen? ⟨B, 0, none⟩ = false := by simp [World.frozen?, hBW]
                      have HBW := Lib.hid hBW
                      clear hBW
                      go_wp2_with fail
                      go_ret2
                      exact HF.out _ _ _ (own_lower (ownsRow_setCell_below ho hBlt _) hBlt) ((Below.mono hx (Nat.le_of_lt hBlt)).setCell (Nat.le_refl _) _) (by simpa using hx.size) (boxed_set HBW.out _) rfl
                    · have hd1 : decide ((0 : Int) < (k : Int)) = false := decide_eq_false (by omega)
                      have hd1n : decide (0 < k) = false := decide_eq_false hk0
                      clear hz
                      go_wp2_with (refine cutB (.tmp 81) (some (.tmp 83)) none (k + 1) l.length rfl rfl hl ⟨_, _, rfl, by omega, by omega⟩ rfl hlt1 (Nat.le_refl _) ?_; intro v84 h84; rw [hdrop] at h84)
                      refine (own03_any _ v84 _ h84 h53).mono ?_
                      rintro e W ⟨va, rfl, ho, hx⟩
                      obtain ⟨aa, ca, rfl, -, -⟩ := ho.bytes.shape
                      rw [List.length_drop] at ho
                      have hBW : W.heap[B]? = some (.cells #[.slice (some ⟨b, o, none⟩) l.length cap] 81 (0, 0)) := by rw [hx.block B hBlt]; exact HB.out
                      have hcW : W.cell? ⟨B, 0, none⟩ = some (.slice (some ⟨b, o, none⟩) l.length cap) := cell_of_row W B 0 _ _ _ hBW
                      have hfW : W.frozen? ⟨B, 0, none⟩ = false := by simp [World.frozen?, hBW]
                      have HBW := Lib.hid hBW
                      clear hBW
                      go_wp2_with fail
                      go_ret2
                      exact HF.out _ _ _ (own_lower (ownsRow_setCell_below ho hBlt _) hBlt) ((Below.mono hx (Nat.le_of_lt hBlt)).setCell (Nat.le_refl _) _) (by simpa using hx.size) (boxed_set HBW.out _) rfl
              | succ j =>
                rw [show (((j + 1 : Nat) : Int) - 1) = (j : Int) by omega]
                have hjl : j < l.length := by omega
                obtain ⟨b2, o2, e, hcj⟩ := hl.at hjl
                cases e
                have hs1 := HS.out j (by omega) hjl
                have hs2 := H6.out j
                have HE : Hid (lowS (q.drop j) = 128 * lowS (q.drop (j + 1)) + (l[j]).toNat % 128) := hs1
                rw [hs1] at hs2
                have hbj := byte_lt l[j]
                have hj9 : j = 9 → (l[j]).toNat ≤ 1 := fun e => by
                  subst e
                  have e2 : k = 9 := by omega
                  subst e2
                  rcases Nat.lt_or_ge 1 (l[9]).toNat with h' | h'
                  · exact absurd ⟨rfl, h'⟩ hbk
                  · exact h'
                clear hs1 hbk HS H6 hend hzero hv hcell hc0 hd
                generalize lowS (q.drop (j + 1)) = S at *
                generalize l[j] = g at *
                by_cases h9 : j = 9
                · subst h9
                  have hg := hj9 rfl
                  rw [show ((9 : Nat) : Int) = 9 from rfl]
                  have hd1 : decide ((1 : Int) < (g.toNat : Int) % 128) = false := decide_eq_false (by omega)
                  clear hj9
                  go_wp2_with fail
                  go_round
                  case rel => exact ⟨9, by omega, by rw [HE.out]; go_num, by go_num⟩
                  case measure => simp [intOf]
                · have hd9 : ((j : Int) == 9) = false := beq_eq_false_iff_ne.2 (by omega)
                  clear hj9
                  go_wp2_with fail
                  go_round
                  case rel => exact ⟨j, by omega, by rw [HE.out]; go_num, by go_num⟩
                  case measure => simp [intOf]
    · obtain rfl : k = l.length := by omega
      have hall' : ∀ c ∈ l, 128 ≤ c.toNat := fun c hc => hall.out c (by rw [List.take_length]; exact hc)
      by_cases h10 : 10 ≤ l.length
      · have hv := Lib.hid (vget_ten most l l.length (Nat.le_refl _) hall.out h10)
        have hd10 : decide ((10 : Int) ≤ (l.length : Int)) = true := decide_eq_true (by omega)
        clear HD10 hall'
        go_wp2_with fail
        go_ret2
        exact RdEnd.err HB.out hl (by decide) hv.out
      · have hv := Lib.hid (vget_all most l hall' (by omega))
        have hd10 : decide ((10 : Int) ≤ (l.length : Int)) = false := decide_eq_false (by omega)
        clear HD10 hall'
        go_wp2_with fail
        go_ret2
        exact RdEnd.err HB.out hl (by decide) hv.out

end Go.Proofs.YtkaepcjkpaplfaaDoor
