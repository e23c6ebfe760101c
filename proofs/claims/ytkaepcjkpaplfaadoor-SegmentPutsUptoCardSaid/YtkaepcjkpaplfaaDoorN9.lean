/- A segment's name read, walked: Parse. -/
import Derived.Test.YtkaepcjkpaplfaaDoorN1
import Derived.Test.YtkaepcjkpaplfaaDoorShelf
import Derived.Shelf.Strings.SlTrimAscii
import Derived.Lib.ConvBytes
namespace Go.Proofs.YtkaepcjkpaplfaaDoor
open Go.RowKit

def tenL : List UInt8 := [48, 49, 50, 51, 52, 53, 54, 55, 56, 57]
theorem trim_any (s : List UInt8) (w : World) (hs : s.length ≤ 9223372036854775807) :
    Calls Tryd.prog 28 #[.string (strOf s), .string ⟨#[48, 49, 50, 51, 52, 53, 54, 55, 56, 57]⟩] w fun e w' => e = .returned (.string (strOf (Lib.trimS s tenL))) ∧ Ext w w' :=
  (Any.strings_Trim_laid Tryd.lays160 (by kernel_rfl) (strOf s) ⟨#[48, 49, 50, 51, 52, 53, 54, 55, 56, 57]⟩ w (by rw [strOf_size]; exact hs) (by decide) (ascii_of_all (by decide))).mono fun _ _ h => h

theorem isDig_ten (c : UInt8) : tenL.contains c = isDig c := by
  have h : ∀ n : Fin 256, tenL.contains (UInt8.ofNat n.val) = isDig (UInt8.ofNat n.val) := by decide +kernel
  have e : UInt8.ofNat c.toNat = c := UInt8.ofNat_toNat
  have := h ⟨c.toNat, byte_lt c⟩
  simp only [e] at this
  exact this
theorem dropWhile_nil {α : Type} (p : α → Bool) : ∀ l : List α, l.dropWhile p = [] ↔ l.all p = true
  | [] => by simp
  | a :: l => by
    rw [List.dropWhile_cons, List.all_cons]
    cases h : p a with
    | true => simp [dropWhile_nil p l]
    | false => simp
theorem trim_nil (l : List UInt8) : Lib.trimS l tenL = [] ↔ l.all isDig = true := by
  have e : (fun c => tenL.contains c) = isDig := funext isDig_ten
  unfold Lib.trimS Lib.trimLeftS Lib.trimRightS
  rw [e, dropWhile_nil, List.all_reverse]
  constructor
  · intro h
    have h2 : (l.reverse.dropWhile isDig) = [] := by
      cases hd : l.reverse.dropWhile isDig with
      | nil => rfl
      | cons a m =>
        have h3 := List.head_dropWhile_not isDig (l := l.reverse) (by rw [hd]; simp)
        simp only [hd, List.head_cons] at h3
        rw [hd, List.all_cons, h3] at h
        cases h
    rw [dropWhile_nil, List.all_reverse] at h2
    exact h2
  · intro h
    have h2 : l.reverse.dropWhile isDig = [] := by rw [dropWhile_nil, List.all_reverse]; exact h
    rw [h2]; rfl

theorem conv_str (w : World) (l : List UInt8) (hl : l.length ≤ maxLen) : ∃ cap W, (convert 9 34 (.string (strOf l))).run Tryd.prog w = .ok (.slice (some ⟨w.heap.size, 0, none⟩) l.length cap) W ∧ Bytes W (.slice (some ⟨w.heap.size, 0, none⟩) l.length cap) l ∧ Ext w W := by
  have hr := Lib.run_convert_string_bytes (P := Tryd.prog) w 9 34 5 (strOf l) Tryd.underlying9 Tryd.underlying34 Tryd.underlying5
  rw [strOf_size] at hr
  refine ⟨_, _, hr, ⟨by simp, some ⟨w.heap.size, 0, none⟩, _, rfl, grownCap_ge _ _ _ _, grownCap_le_maxLen _ _ _ _ hl, by simp, fun p hp _ => by cases hp; rfl, fun j u hj => ⟨_, rfl, ?_⟩⟩, ?_⟩
  · have hjl : j < l.length := by
      rcases Nat.lt_or_ge j l.length with h | h
      · exact h
      · rw [List.getElem?_eq_none (by simpa using h)] at hj; cases hj
    simp only [Nat.zero_add]
    rw [Lib.bytesWorld_cell w 5 (strOf l) j (by rw [strOf_size]; exact hjl)]
    rw [List.getElem?_map, List.getElem?_eq_getElem hjl] at hj
    simp only [Option.map_some] at hj
    rw [← hj]
    simp [strOf, List.getD, hjl]
  · refine ⟨rfl, rfl, rfl, ?_, fun k hk => Lib.bytesWorld_at_old w 5 (strOf l) k hk⟩
    rw [Lib.bytesWorld_size]; exact Nat.le_succ _

set_option maxRecDepth 100000 in
set_option maxHeartbeats 2000000 in
theorem parse_any (w : World) (s : List UInt8) (hs : s.length ≤ 9223372036854775807) :
    Calls Tryd.prog 11 #[.string (strOf s)] w fun e W => e = .returned (.tuple #[.int .i64 ((parseF s).1 : Nat), .int .u64 ((parseF s).2.1 : Nat), .int .i64 ((parseF s).2.2 : Nat)]) ∧ Ext w W := by
  have hsz := strOf_size s
  by_cases h16 : s.length = 16
  · obtain ⟨c0, c1, c2, ds, rfl, hdl⟩ : ∃ c0 c1 c2 ds, s = c0 :: c1 :: c2 :: ds ∧ ds.length = 13 := by
      match s, h16 with
      | a :: b :: c :: d, h => exact ⟨a, b, c, d, rfl, by simpa using h⟩
    have hcut : (strOf (c0 :: c1 :: c2 :: ds)).extract 3 16 = strOf ds := by
      unfold strOf
      apply ByteArray.ext
      simp [ByteArray.data_extract, List.take_of_length_le (Nat.le_of_eq hdl)]
    rw [h16] at hsz
    go_enter Tryd.func11, Tryd.ntmps11
    go_wp2_with fail
    refine (trim_any ds w (by omega)).mono ?_
    rintro e w1 ⟨rfl, hx1⟩
    by_cases hall : ds.all isDig = true
    · rw [(trim_nil ds).2 hall, show strOf [] = ⟨#[]⟩ from rfl]
      obtain ⟨cap, W, hconv, hB, hx2⟩ := conv_str w1 ds (by rw [hdl]; decide)
      rw [hdl] at hconv hB
      have hB13 : ds.length ≤ 13 := Nat.le_of_eq hdl
      go_wp2_with fail
      go_loopw [5, 7, 24] (fun v _ i wr => ∃ k : Nat, k ≤ 13 ∧ i = .int .i64 k ∧ v = .int .u64 (valD (ds.take k) : Nat) ∧ wr = W) (fun _ _ i _ => 13 - (intOf i).toNat)
      case atStart => exact ⟨0, Nat.zero_le _, rfl, rfl, rfl⟩
      case round =>
        obtain ⟨k, hk, rfl, rfl, rfl⟩ := hrel
        by_cases hlt : k < 13
        · have hkd : k < ds.length := by omega
          obtain ⟨b, o, c, hbo, hck, hcell⟩ := Bytes.get hB hkd
          simp only [Option.some.injEq, Addr.mk.injEq, and_true] at hbo
          obtain ⟨rfl, rfl⟩ := hbo
          have hdig : isDig c = true := by
            rw [List.getElem?_eq_getElem hkd] at hck
            rw [← Option.some.inj hck]
            exact List.all_eq_true.1 hall _ (List.getElem_mem _)
          unfold isDig at hdig
          simp only [Bool.and_eq_true, decide_eq_true_eq] at hdig
          have hcb := byte_lt c
          have hnext : Hid (valD (ds.take (k + 1)) = 10 * valD (ds.take k) + (c.toNat - 48)) := by
            show _ = _
            rw [List.take_succ_eq_append_getElem hkd, valD_append]
            rw [List.getElem?_eq_getElem hkd] at hck
            rw [Option.some.inj hck]
          have hvlt : valD (ds.take k) < 10 ^ 13 := by
            refine Nat.lt_of_lt_of_le (valD_lt k _ (by rw [List.length_take]; omega) ?_) (Nat.pow_le_pow_right (by omega) hk)
            rw [List.all_eq_true] at hall ⊢
            exact fun x hx => hall x (List.mem_of_mem_take hx)
          generalize valD (ds.take k) = q at *
          simp only [Nat.zero_add] at hcell
          go_wp2_with fail
          go_roundw
          case rel => exact ⟨k + 1, hlt, by go_num, by rw [hnext.out]; go_num, trivial⟩
          case measure => simp [intOf]; omega
        · obtain rfl : k = 13 := by omega
          have htk : ds.take 13 = ds := List.take_of_length_le (Nat.le_of_eq hdl)
          have hvlt := valD_lt 13 ds hdl hall
          have hdv := digs_val 13 ds hdl hall
          rw [htk]
          have hidx : ∀ h : 1 < (strOf (c0 :: c1 :: c2 :: ds)).size, (strOf (c0 :: c1 :: c2 :: ds))[1]'h = c1 := fun _ => rfl
          have HDV := Lib.hid hdv
          have HTK := Lib.hid htk
          clear hdv htk
          have hc1 := byte_lt c1
          generalize hqv : valD ds = q at *
          have HQV := Lib.hid hqv
          clear hqv
          go_wp2_with fail
          refine (name_any _ _ q (by omega) (by omega) (by omega)).mono ?_
          rintro e w3 ⟨rfl, hx3⟩
          by_cases hbad : ((c1.toNat : Int) - 48) < 0 ∨ 4 ≤ ((c1.toNat : Int) - 48) ∨ ¬ may q
          · have he : Hid (parseF (c0 :: c1 :: c2 :: ds) = (0, 0, 5)) := by
              show _ = _
              unfold parseF
              rw [if_neg]
              rintro ⟨-, -, g1, g2, -, -, g3⟩
              simp only [List.getD_cons_succ, List.getD_cons_zero, List.drop_succ_cons, List.drop_zero] at g1 g2 g3
              rw [HQV.out] at g3
              rcases hbad with h | h | h
              · omega
              · omega
              · exact h g3
            have hnf : nameF ((c1.toNat : Int) - 48) q = ([], 1) := by unfold nameF; rw [if_pos hbad]
            rw [hnf]
            clear hnf hbad
            go_wp2_with fail
            go_ret3
            exact ⟨by rw [he.out]; rfl, hx1.trans (hx2.trans hx3)⟩
          · have hnf : nameF ((c1.toNat : Int) - 48) q = (115 :: c1 :: 45 :: ds, 0) := by
              unfold nameF
              rw [if_neg hbad]
              have e1 : (((c1.toNat : Int) - 48).toNat) = c1.toNat - 48 := by omega
              have e2 : UInt8.ofNat (48 + (c1.toNat - 48)) = c1 := by
                apply UInt8.toNat_inj.1
                rw [UInt8.toNat_ofNat']; omega
              unfold nameL
              rw [e1, e2, HDV.out]
            rw [hnf]
            clear hnf
            have hp0 : 48 ≤ c1.toNat ∧ c1.toNat ≤ 51 ∧ may q := by
              refine ⟨by omega, by omega, Decidable.byContradiction fun h => hbad (.inr (.inr h))⟩
            clear hbad
            by_cases hsame : c0 = 115 ∧ c2 = 45
            · obtain ⟨rfl, rfl⟩ := hsame
              have he : Hid (parseF (115 :: c1 :: 45 :: ds) = (c1.toNat - 48, q, 0)) := by
                show _ = _
                unfold parseF
                rw [if_pos]
                · simp only [List.getD_cons_succ, List.getD_cons_zero, List.drop_succ_cons, List.drop_zero, HQV.out]
                · exact ⟨h16, rfl, hp0.1, hp0.2.1, rfl, hall, by show may (valD ds); rw [HQV.out]; exact hp0.2.2⟩
              go_wp2_with fail
              go_ret3
              have e9 : ((c1.toNat : Int) - 48) = ((c1.toNat - 48 : Nat) : Int) := by omega
              exact ⟨by rw [he.out, ← e9]; rfl, hx1.trans (hx2.trans hx3)⟩
            · have he : Hid (parseF (c0 :: c1 :: c2 :: ds) = (0, 0, 5)) := by
                show _ = _
                unfold parseF
                rw [if_neg]
                rintro ⟨-, g0, -, -, g2, -⟩
                exact hsame ⟨g0, g2⟩
              have hne1 : ¬ (strOf (115 :: c1 :: 45 :: ds) = strOf (c0 :: c1 :: c2 :: ds)) := fun e => by
                have := strOf_inj.1 e
                simp only [List.cons.injEq] at this
                exact hsame ⟨this.1.symm, this.2.2.1.symm⟩
              have hneL : ¬ ((115 : UInt8) :: c1 :: 45 :: ds = c0 :: c1 :: c2 :: ds) := fun e => hne1 (by rw [e])
              generalize (115 : UInt8) :: c1 :: 45 :: ds = A at *
              generalize hB9 : c0 :: c1 :: c2 :: ds = B at *
              have HB9 := Lib.hid hB9
              clear hB9
              have hbe : (A == B) = false := by simpa using hneL
              clear hne1 hneL hidx hcut hsz
              go_wp2_with fail
              go_ret3
              exact ⟨by rw [HB9.out, he.out]; rfl, hx1.trans (hx2.trans hx3)⟩
    · have hne : Lib.trimS ds tenL ≠ [] := fun e => hall ((trim_nil ds).1 e)
      have hTe : (Lib.trimS ds tenL).isEmpty = false := by
        cases h : Lib.trimS ds tenL with
        | nil => exact absurd h hne
        | cons a b => rfl
      generalize Lib.trimS ds tenL = T at *
      have he : Hid (parseF (c0 :: c1 :: c2 :: ds) = (0, 0, 5)) := by show _ = _; unfold parseF; rw [if_neg (fun h => hall h.2.2.2.2.2.1)]
      go_wp2_with fail
      go_ret3
      exact ⟨by rw [he.out]; rfl, hx1⟩
  · have he : parseF s = (0, 0, 5) := by unfold parseF; rw [if_neg (fun h => h16 h.1)]
    rw [he]
    clear he
    have hd : ((s.length : Int) == 16) = false := beq_eq_false_iff_ne.2 (by omega)
    go_enter Tryd.func11, Tryd.ntmps11
    go_wp2_with fail
    go_ret3
    exact ⟨rfl, Ext.refl w⟩

end Go.Proofs.YtkaepcjkpaplfaaDoor
