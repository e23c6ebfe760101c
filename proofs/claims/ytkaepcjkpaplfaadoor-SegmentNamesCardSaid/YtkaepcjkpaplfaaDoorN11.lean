/- A segment's name read, of the reference, walked: Parse. -/
import Derived.Test.YtkaepcjkpaplfaaDoorN1
namespace Go.Proofs.YtkaepcjkpaplfaaDoor
open Go.RowKit

theorem parse_bad {s : List UInt8} (h : ¬ (s.length = 16 ∧ s.getD 0 0 = 115 ∧ 48 ≤ (s.getD 1 0).toNat ∧ (s.getD 1 0).toNat ≤ 51 ∧ s.getD 2 0 = 45 ∧ (s.drop 3).all isDig = true ∧ may (valD (s.drop 3)))) : parseF s = (0, 0, 5) := by
  unfold parseF; rw [if_neg h]

set_option maxRecDepth 100000 in
set_option maxHeartbeats 4000000 in
theorem rparse_any (w : World) (s : List UInt8) (hs : s.length ≤ 9223372036854775807) :
    Calls Tryd.prog 12 #[.string (strOf s)] w fun e W => e = .returned (.tuple #[.int .i64 ((parseF s).1 : Nat), .int .u64 ((parseF s).2.1 : Nat), .int .i64 ((parseF s).2.2 : Nat)]) ∧ Ext w W := by
  have hsz := strOf_size s
  by_cases h16 : s.length = 16
  · obtain ⟨c0, c1, c2, ds, rfl, hdl⟩ : ∃ c0 c1 c2 ds, s = c0 :: c1 :: c2 :: ds ∧ ds.length = 13 := by
      match s, h16 with
      | a :: b :: c :: d, h => exact ⟨a, b, c, d, rfl, by simpa using h⟩
    rw [h16] at hsz
    have hi0 : ∀ h : 0 < (strOf (c0 :: c1 :: c2 :: ds)).size, (strOf (c0 :: c1 :: c2 :: ds))[0]'h = c0 := fun _ => rfl
    have hi1 : ∀ h : 1 < (strOf (c0 :: c1 :: c2 :: ds)).size, (strOf (c0 :: c1 :: c2 :: ds))[1]'h = c1 := fun _ => rfl
    have hi2 : ∀ h : 2 < (strOf (c0 :: c1 :: c2 :: ds)).size, (strOf (c0 :: c1 :: c2 :: ds))[2]'h = c2 := fun _ => rfl
    have hb0 := byte_lt c0
    have hb1 := byte_lt c1
    have hb2 := byte_lt c2
    by_cases g0 : c0.toNat = 115
    · have d0 : ((c0.toNat : Int) == 115) = true := beq_iff_eq.2 (by omega)
      by_cases g1 : c1.toNat < 48
      · have he : Hid (parseF (c0 :: c1 :: c2 :: ds) = (0, 0, 5)) := parse_bad (by rintro ⟨-, -, h, -⟩; simp at h; omega)
        have d1 : decide ((c1.toNat : Int) < 48) = true := decide_eq_true (by omega)
        go_enter Tryd.func12, Tryd.ntmps12
        go_wp2_with fail
        go_ret3
        exact ⟨by rw [he.out]; rfl, Ext.refl w⟩
      have d1 : decide ((c1.toNat : Int) < 48) = false := decide_eq_false (by omega)
      by_cases g2 : 51 < c1.toNat
      · have he : Hid (parseF (c0 :: c1 :: c2 :: ds) = (0, 0, 5)) := parse_bad (by rintro ⟨-, -, -, h, -⟩; simp at h; omega)
        have d2 : decide ((51 : Int) < (c1.toNat : Int)) = true := decide_eq_true (by omega)
        go_enter Tryd.func12, Tryd.ntmps12
        go_wp2_with fail
        go_ret3
        exact ⟨by rw [he.out]; rfl, Ext.refl w⟩
      have d2 : decide ((51 : Int) < (c1.toNat : Int)) = false := decide_eq_false (by omega)
      by_cases g3 : c2.toNat = 45
      · have d3 : ((c2.toNat : Int) == 45) = true := beq_iff_eq.2 (by omega)
        go_enter Tryd.func12, Tryd.ntmps12
        go_wp2_with fail
        go_loopw [5, 6] (fun v i wr => ∃ k : Nat, k ≤ 13 ∧ i = .int .i64 ((3 + k : Nat) : Int) ∧ v = .int .u64 (valD (ds.take k) : Nat) ∧ Hid ((ds.take k).all isDig = true) ∧ wr = w) (fun _ i _ => 16 - (intOf i).toNat)
        case atStart => exact ⟨0, Nat.zero_le _, rfl, rfl, rfl, rfl⟩
        case round =>
          obtain ⟨k, hk, rfl, rfl, hpre, rfl⟩ := hrel
          by_cases hlt : k < 13
          · have hkd : k < ds.length := by omega
            have hdk : decide (((3 + k : Nat) : Int) < 16) = true := decide_eq_true (by omega)
            have hgt : Hid (ds[k]? = some ds[k]) := List.getElem?_eq_getElem hkd
            have hnext : Hid (valD (ds.take (k + 1)) = 10 * valD (ds.take k) + (ds[k].toNat - 48)) := by
              show _ = _
              rw [List.take_succ_eq_append_getElem hkd, valD_append]
            have hpn : isDig ds[k] = true → (ds.take (k + 1)).all isDig = true := fun h => by
              rw [List.take_succ_eq_append_getElem hkd, List.all_append, hpre.out]; simp [h]
            have hvlt : valD (ds.take k) < 10 ^ 13 :=
              Nat.lt_of_lt_of_le (valD_lt k _ (by rw [List.length_take]; omega) hpre.out) (Nat.pow_le_pow_right (by omega) hk)
            have hik : ∀ h : 3 + k < (strOf (c0 :: c1 :: c2 :: ds)).size, (strOf (c0 :: c1 :: c2 :: ds))[3 + k]'h = ds[k] := fun h => by
              show ((c0 :: c1 :: c2 :: ds).toArray)[3 + k]'_ = ds[k]
              simp only [List.getElem_toArray, Nat.add_comm 3 k, List.getElem_cons_succ]
            have hmem : ds[k] ∈ ds := List.getElem_mem _
            have hsz3 : 3 + k < 16 := by omega
            generalize ds[k] = c at *
            have hcb := byte_lt c
            generalize valD (ds.take k) = q at *
            by_cases c48 : c.toNat < 48
            · have he : Hid (parseF (c0 :: c1 :: c2 :: ds) = (0, 0, 5)) := parse_bad (by
                rintro ⟨-, -, -, -, -, h, -⟩
                simp only [List.drop_succ_cons, List.drop_zero] at h
                have := List.all_eq_true.1 h c hmem
                simp [isDig] at this; omega)
              have t1 : decide ((c.toNat : Int) < 48) = true := decide_eq_true (by omega)
              go_wp2_with fail
              go_ret3
              exact ⟨by rw [he.out]; rfl, Ext.refl _⟩
            have t1 : decide ((c.toNat : Int) < 48) = false := decide_eq_false (by omega)
            by_cases c57 : 57 < c.toNat
            · have he : Hid (parseF (c0 :: c1 :: c2 :: ds) = (0, 0, 5)) := parse_bad (by
                rintro ⟨-, -, -, -, -, h, -⟩
                simp only [List.drop_succ_cons, List.drop_zero] at h
                have := List.all_eq_true.1 h c hmem
                simp [isDig] at this; omega)
              have t2 : decide ((57 : Int) < (c.toNat : Int)) = true := decide_eq_true (by omega)
              go_wp2_with fail
              go_ret3
              exact ⟨by rw [he.out]; rfl, Ext.refl _⟩
            have t2 : decide ((57 : Int) < (c.toNat : Int)) = false := decide_eq_false (by omega)
            have hpn' := Lib.hid (hpn (by simp [isDig]; omega))
            clear hpn hmem
            go_wp2_with fail
            go_roundw
            case rel => exact ⟨k + 1, hlt, by go_num, by rw [hnext.out]; go_num, hpn', trivial⟩
            case measure => simp [intOf]; omega
          · obtain rfl : k = 13 := by omega
            have htk : ds.take 13 = ds := List.take_of_length_le (Nat.le_of_eq hdl)
            have hall : ds.all isDig = true := by rw [← htk]; exact hpre.out
            have hvlt := valD_lt 13 ds hdl hall
            rw [htk]
            have hdk : decide (((3 + 13 : Nat) : Int) < 16) = false := rfl
            clear htk hpre
            have hpar : Hid (parseF (c0 :: c1 :: c2 :: ds) = if may (valD ds) then (c1.toNat - 48, valD ds, 0) else (0, 0, 5)) := by
              show _ = _
              by_cases hm : may (valD ds)
              · rw [if_pos hm]
                unfold parseF
                rw [if_pos]
                · rfl
                · exact ⟨h16, UInt8.toNat_inj.1 (by simpa using g0), by simpa using Nat.le_of_not_lt g1, by simpa using Nat.le_of_not_lt g2, UInt8.toNat_inj.1 (by simpa using g3), hall, hm⟩
              · rw [if_neg hm]
                exact parse_bad (by rintro ⟨-, -, -, -, -, -, h⟩; exact hm h)
            generalize valD ds = q at *
            by_cases q0 : q = 0
            · rw [if_neg (fun h => by have := h.1; omega)] at hpar
              subst q0
              go_wp2_with fail
              go_ret3
              exact ⟨by rw [hpar.out]; rfl, Ext.refl _⟩
            have t3 : ((q : Int) == 0) = false := beq_eq_false_iff_ne.2 (by omega)
            by_cases qb : 1099511627776 < q
            · rw [if_neg (fun h => by have := h.2; omega)] at hpar
              have t4 : decide ((1099511627776 : Int) < (q : Int)) = true := decide_eq_true (by omega)
              go_wp2_with fail
              go_ret3
              exact ⟨by rw [hpar.out]; rfl, Ext.refl _⟩
            rw [if_pos ⟨by omega, by omega⟩] at hpar
            have t4 : decide ((1099511627776 : Int) < (q : Int)) = false := decide_eq_false (by omega)
            go_wp2_with fail
            go_ret3
            have e9 : ((c1.toNat : Int) - 48) = ((c1.toNat - 48 : Nat) : Int) := by omega
            exact ⟨by rw [hpar.out, ← e9]; rfl, Ext.refl _⟩
      · have he : Hid (parseF (c0 :: c1 :: c2 :: ds) = (0, 0, 5)) := parse_bad (by rintro ⟨-, -, -, -, h, -⟩; simp at h; exact g3 (by rw [h]; rfl))
        have d3 : ((c2.toNat : Int) == 45) = false := beq_eq_false_iff_ne.2 (by omega)
        go_enter Tryd.func12, Tryd.ntmps12
        go_wp2_with fail
        go_ret3
        exact ⟨by rw [he.out]; rfl, Ext.refl w⟩
    · have he : Hid (parseF (c0 :: c1 :: c2 :: ds) = (0, 0, 5)) := parse_bad (by rintro ⟨-, h, -⟩; simp at h; exact g0 (by rw [h]; rfl))
      have d0 : ((c0.toNat : Int) == 115) = false := beq_eq_false_iff_ne.2 (by omega)
      go_enter Tryd.func12, Tryd.ntmps12
      go_wp2_with fail
      go_ret3
      exact ⟨by rw [he.out]; rfl, Ext.refl w⟩
  · have he : parseF s = (0, 0, 5) := parse_bad fun h => h16 h.1
    rw [he]
    clear he
    have hd : ((s.length : Int) == 16) = false := beq_eq_false_iff_ne.2 (by omega)
    go_enter Tryd.func12, Tryd.ntmps12
    go_wp2_with fail
    go_ret3
    exact ⟨rfl, Ext.refl w⟩

end Go.Proofs.YtkaepcjkpaplfaaDoor
