/- Records: the reference's frame of a record, its splitting; lists of records held against each other. -/
import Derived.Test.YtanlhpmebpebgaaW6
import Derived.Test.YtanlhpmebpebgaaF2
namespace Go.Proofs.Ytanlhpmebpebgaa
open Go.RowKit

theorem four_low (n : Nat) (h : n ≤ 2048) : [Value.int .u8 ((n : Int) % 256), Value.int .u8 ((n : Int) / 256), Value.int .u8 0, Value.int .u8 0] = (fourF n).map fun b => Value.int .u8 (b.toNat : Int) := by
  rw [← four_val]
  have e1 : (n : Int) / 256 % 256 = (n : Int) / 256 := by omega
  have e2 : (n : Int) / 65536 % 256 = 0 := by omega
  have e3 : (n : Int) / 16777216 % 256 = 0 := by omega
  rw [e1, e2, e3]

set_option maxHeartbeats 400000 in
theorem rput_any (w : World) (v : Value) (l : List UInt8) (hl : Bytes w v l) :
    Calls Try.prog 26 #[v] w fun e w' => ∃ v', e = .returned (.tuple #[v', .int .i64 (putR l).2]) ∧ OwnB w' w.heap.size v' (putR l).1 ∧ Ext w w' := by
  obtain ⟨a, cap, rfl, hc, hm⟩ := hl.shape
  unfold maxLen at hm
  by_cases h1 : l.length = 0
  · have hd1 : ((l.length : Int) == 0) = true := beq_iff_eq.2 (by omega)
    have hr : putR l = ([], 1) := by rw [putR, if_pos h1]
    have HR := Lib.hid hr; clear hr h1
    go_enter Try.func26, Try.ntmps26
    go_wp2_with fail
    go_ret2
    refine ⟨.slice none 0 0, ?_, ?_, Ext.refl w⟩
    · rw [HR.out]; rfl
    · rw [HR.out]; exact OwnB.nil _ _
  · have hd1 : ((l.length : Int) == 0) = false := beq_eq_false_iff_ne.2 (by omega)
    by_cases h2 : l.length ≤ 2048
    · have hd2 : decide ((2048 : Int) < (l.length : Int)) = false := decide_eq_false (by omega)
      have hr : putR l = (fr l, 0) := by rw [putR, if_neg h1, if_neg (by omega)]
      have HR := Lib.hid hr; clear hr h1
      have hlit : OwnB (w.alloc (.cells #[.int .u8 ((l.length : Int) % 256), .int .u8 ((l.length : Int) / 256), .int .u8 0, .int .u8 0] 5)) w.heap.size (.slice (some ⟨w.heap.size, 0, none⟩) 4 4) (fourF l.length) := by
        unfold OwnB
        rw [← four_low _ h2]
        exact World.ownsRow_lit w _ 4 (Nat.le_refl _) (by decide) rfl
      have hx0 : Ext w (w.alloc (.cells #[.int .u8 ((l.length : Int) % 256), .int .u8 ((l.length : Int) / 256), .int .u8 0, .int .u8 0] 5)) := (Ext.refl w).alloc _
      go_enter Try.func26, Try.ntmps26
      go_wp2_with (at_builtin; refine appB (.tmp 21) (.tmp 22) rfl rfl w.heap.size hlit (hl.ext hx0) (by rw [fourF_length]; omega) hx0.size ?_; intro v2 w2 ho2 hg2)
      have hx2 : Ext w w2 := hx0.mono_grown hlit (Nat.le_refl _) hg2
      refine (ref_put _ _ _ ho2.bytes (by rw [List.length_append, fourF_length]; omega)).mono ?_
      rintro e w3 ⟨v3, rfl, ho3, hx3⟩
      go_wp2_with fail
      go_ret2
      refine ⟨v3, ?_, ?_, hx2.trans hx3⟩
      · rw [HR.out]; rfl
      · rw [HR.out]; exact ho3.mono hx2.size
    · have hd2 : decide ((2048 : Int) < (l.length : Int)) = true := decide_eq_true (by omega)
      have hr : putR l = ([], 3) := by rw [putR, if_neg h1, if_pos (by omega)]
      have HR := Lib.hid hr; clear hr h1
      go_enter Try.func26, Try.ntmps26
      go_wp2_with fail
      go_ret2
      refine ⟨.slice none 0 0, ?_, ?_, Ext.refl w⟩
      · rw [HR.out]; rfl
      · rw [HR.out]; exact OwnB.nil _ _

/-- A slice of slices that can be read. -/
def Lists (W : World) (v : Value) (rs : List (List UInt8)) : Prop :=
  ∃ us, Row W 1 v rs.length us ∧ ∀ (i : Nat) (u : Value) (r : List UInt8), us[i]? = some u → rs[i]? = some r → Bytes W u r
theorem Lists.ext {W W' : World} {v : Value} {rs : List (List UInt8)} (h : Lists W v rs) (hx : Ext W W') : Lists W' v rs := by
  obtain ⟨us, h1, h2⟩ := h; exact ⟨us, h1.ext hx, fun i u r a b => (h2 i u r a b).ext hx⟩
theorem Lists.shape {W : World} {v : Value} {rs : List (List UInt8)} (h : Lists W v rs) : ∃ a cap, v = .slice a rs.length cap ∧ rs.length ≤ cap ∧ cap ≤ maxLen := by
  obtain ⟨_, ⟨_, a, cap, h1, h2, h3, _⟩, _⟩ := h; exact ⟨a, cap, h1, h2, h3⟩
theorem Lists.at {W : World} {a : Option Addr} {n cap : Nat} {rs : List (List UInt8)} (h : Lists W (.slice a n cap) rs) {k : Nat} (hk : k < rs.length) :
    ∃ b o u, a = some ⟨b, o, none⟩ ∧ W.cell? ⟨b, o + k, none⟩ = some u ∧ Bytes W u rs[k] := by
  obtain ⟨us, ⟨hl, a', cap', e, hc, hm, hnil, hspot, hcell⟩, h2⟩ := h
  simp only [Value.slice.injEq] at e
  obtain ⟨rfl, rfl, rfl⟩ := e
  have hku : k < us.length := by omega
  obtain ⟨p, rfl, hp⟩ := hcell k us[k] (by simp [hku])
  obtain ⟨pb, po, ps⟩ := p
  have := hspot _ rfl (by omega)
  simp only at this; subst this
  exact ⟨pb, po, us[k], rfl, hp, h2 k _ _ (by simp [hku]) (by simp [hk])⟩

theorem take_next {α : Type} {l1 l2 : List α} {k : Nat} (h1 : k < l1.length) (h2 : k < l2.length) (ht : l1.take k = l2.take k) (e : l1[k] = l2[k]) : l1.take (k + 1) = l2.take (k + 1) := by
  rw [List.take_succ_eq_append_getElem h1, List.take_succ_eq_append_getElem h2, ht, e]
theorem take_differ {α : Type} {l1 l2 : List α} {k : Nat} (h1 : k < l1.length) (h2 : k < l2.length) (e : ¬ l1[k] = l2[k]) : l1 ≠ l2 := by
  intro h; subst h; exact e rfl

set_option maxHeartbeats 400000 in
theorem same_any (w : World) (v1 v2 : Value) (l1 l2 : List (List UInt8)) (h1 : Lists w v1 l1) (h2 : Lists w v2 l2) :
    Calls Try.prog 32 #[v1, v2] w fun e w' => e = .returned (.bool (decide (l1 = l2))) ∧ Ext w w' := by
  obtain ⟨a1, c1, rfl, hc1, hm1⟩ := h1.shape
  obtain ⟨a2, c2, rfl, hc2, hm2⟩ := h2.shape
  by_cases hlen : l1.length = l2.length
  · have hd0 : ((l1.length : Int) != (l2.length : Int)) = false := by simp [hlen]
    have HL := Lib.hid hlen
    have hn1 : l1.length ≤ 9223372036854775807 := by unfold maxLen at hm1; omega
    generalize hN1 : (l1.length : Int) = N1 at *
    generalize hN2 : (l2.length : Int) = N2 at *
    generalize hm : l1.length = n at *
    generalize hm' : l2.length = n' at *
    subst hlen
    have HM := Lib.hid hm; clear hm
    have HM' := Lib.hid hm'; clear hm'
    subst hN1; subst hN2
    go_enter Try.func32, Try.ntmps32
    go_wp2_with fail
    go_loopw [5] (fun i wr => ∃ k : Nat, k ≤ n ∧ i = .int .i64 k ∧ l1.take k = l2.take k ∧ Ext w wr) (fun i _ => n - (intOf i).toNat)
    case atStart => exact ⟨0, by omega, rfl, by simp, Ext.refl w⟩
    case round =>
      obtain ⟨k, hk, rfl, ht, hx⟩ := hrel
      have HT := Lib.hid ht; clear ht
      by_cases hlt : k < n
      · have k1 : k < l1.length := by rw [HM.out]; exact hlt
        have k2 : k < l2.length := by rw [HM'.out]; exact hlt
        obtain ⟨b1, o1, u1, rfl, hu1, hB1⟩ := h1.at k1
        obtain ⟨b2, o2, u2, rfl, hu2, hB2⟩ := h2.at k2
        have hst := fun e : l1[k] = l2[k] => take_next k1 k2 HT.out e
        have hsf := fun e : ¬ l1[k] = l2[k] => take_differ k1 k2 e
        generalize l1[k] = r1 at *
        generalize l2[k] = r2 at *
        go_wp2_with fail
        have hu1' := hx.cell hu1
        have hu2' := hx.cell hu2
        have hB1' := hB1.ext hx
        have hB2' := hB2.ext hx
        refine wp_region_facts [Fact.eq (.slice (some ⟨b1, o1, none⟩) n c1),
            Fact.eq (.int .i64 k),
            Fact.eq (.pointer (some ⟨b1, o1 + k, none⟩)),
            Fact.eq u1,
            Fact.eq (.string (strOf r1)),
            Fact.eq (.slice (some ⟨b2, o2, none⟩) n c2),
            Fact.eq (.int .i64 k),
            Fact.eq (.pointer (some ⟨b2, o2 + k, none⟩)),
            Fact.eq u2,
            Fact.eq (.string (strOf r2)),
            Fact.eq (.bool !(r1 == r2))]
          [[], [], [(0, 17), (1, 18)], [(2, 19)], [(3, 20)], [], [], [(5, 22), (6, 23)], [(7, 24)], [(8, 25)], [(4, 21), (9, 26)]]
          [(0, 17), (1, 18), (2, 19), (3, 20), (4, 21), (5, 22), (6, 23), (7, 24), (8, 25), (9, 26), (10, 27)] (by kernel_rfl) (by kernel_rfl) ?_ ?_
        · refine ⟨?_, ?_, ?_, ?_, ?_, ?_, ?_, ?_, ?_, ?_, ?_, trivial⟩
          · intro w1 hx1; change wpList _ _ _ _ _ _; exact ob_move rfl rfl rfl rfl rfl
          · intro w1 hx1; change wpList _ _ _ _ _ _; exact ob_move rfl rfl rfl rfl rfl
          · intro w1 hx1; rintro _ rfl; rintro _ rfl; change wpList _ _ _ _ _ _; go_wp2_with fail; exact ⟨rfl, Ext.refl _, rfl, rfl⟩
          · intro w1 hx1; rintro _ rfl; change wpList _ _ _ _ _ _; have hq := hx1.cell hu1'; go_wp2_with fail; exact ⟨rfl, Ext.refl _, rfl, rfl⟩
          · intro w1 hx1; rintro _ rfl; change wpList _ _ _ _ _ _; refine strB _ rfl rfl (hB1'.ext hx1) ?_; exact wpList_nil ⟨rfl, Ext.refl _, rfl, rfl⟩
          · intro w1 hx1; change wpList _ _ _ _ _ _; exact ob_move rfl rfl rfl rfl rfl
          · intro w1 hx1; change wpList _ _ _ _ _ _; exact ob_move rfl rfl rfl rfl rfl
          · intro w1 hx1; rintro _ rfl; rintro _ rfl; change wpList _ _ _ _ _ _; go_wp2_with fail; exact ⟨rfl, Ext.refl _, rfl, rfl⟩
          · intro w1 hx1; rintro _ rfl; change wpList _ _ _ _ _ _; have hq := hx1.cell hu2'; go_wp2_with fail; exact ⟨rfl, Ext.refl _, rfl, rfl⟩
          · intro w1 hx1; rintro _ rfl; change wpList _ _ _ _ _ _; refine strB _ rfl rfl (hB2'.ext hx1) ?_; exact wpList_nil ⟨rfl, Ext.refl _, rfl, rfl⟩
          · intro w1 hx1; rintro _ rfl; rintro _ rfl; change wpList _ _ _ _ _ _; go_wp2_with fail; exact ⟨rfl, Ext.refl _, rfl, rfl⟩
        · intro w1 hx1; rintro _ rfl; rintro _ rfl; rintro _ rfl; rintro _ rfl; rintro _ rfl; rintro _ rfl; rintro _ rfl; rintro _ rfl; rintro _ rfl; rintro _ rfl; rintro _ rfl; refine depsThen_nil ?_; dsimp only; simp only [Act.put, List.setIfInBounds_toArray, List.set_cons_zero, List.set_cons_succ]
          have hx2 := hx.trans hx1
          by_cases he : r1 = r2
          · have hd : (r1 == r2) = true := by simp [he]
            have ht2 := hst he
            clear he hst hsf
            generalize (r1 == r2) = B at hd ⊢
            subst hd
            have HT2 := Lib.hid ht2; clear ht2
            go_wp2_with fail
            go_roundw
            case rel => exact ⟨k + 1, hlt, rfl, HT2.out, hx2⟩
            case measure => simp [intOf]; omega
          · have hd : (r1 == r2) = false := by simp [he]
            have hne := hsf he
            clear he hst hsf
            generalize (r1 == r2) = B at hd ⊢
            subst hd
            have hr : decide (l1 = l2) = false := decide_eq_false hne
            have HR := Lib.hid hr; clear hr hne
            go_wp2_with fail
            go_ret
            exact ⟨by rw [HR.out]; rfl, hx2⟩
      · have hr : decide (l1 = l2) = true := decide_eq_true (by
          have := HT.out
          rwa [List.take_of_length_le (by rw [HM.out]; omega), List.take_of_length_le (by rw [HM'.out]; omega)] at this)
        have HR := Lib.hid hr; clear hr
        have hkn : k = n := by omega
        subst hkn
        go_wp2_with fail
        go_ret
        exact ⟨by rw [HR.out]; rfl, hx⟩
  · have hd : ((l1.length : Int) != (l2.length : Int)) = true := by simp; omega
    have hr : decide (l1 = l2) = false := decide_eq_false (fun e => hlen (by rw [e]))
    have HR := Lib.hid hr; clear hr
    clear hlen h1 h2
    generalize l1.length = n1 at *
    generalize l2.length = n2 at *
    go_enter Try.func32, Try.ntmps32
    go_wp2_with fail
    go_ret
    exact ⟨by rw [HR.out]; rfl, Ext.refl w⟩

end Go.Proofs.Ytanlhpmebpebgaa
