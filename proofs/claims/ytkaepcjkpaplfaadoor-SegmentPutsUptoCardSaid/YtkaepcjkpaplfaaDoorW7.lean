/- Records: the reference's frame of a record, its splitting; lists of records held against each other. -/
import Derived.Test.YtkaepcjkpaplfaaDoorW6
import Derived.Test.YtkaepcjkpaplfaaDoorF2
namespace Go.Proofs.YtkaepcjkpaplfaaDoor
open Go.RowKit

theorem four_low (n : Nat) (h : n ≤ 2048) : [Value.int .u8 ((n : Int) % 256), Value.int .u8 ((n : Int) / 256), Value.int .u8 0, Value.int .u8 0] = (fourF n).map fun b => Value.int .u8 (b.toNat : Int) := by
  rw [← four_val]
  have e1 : (n : Int) / 256 % 256 = (n : Int) / 256 := by omega
  have e2 : (n : Int) / 65536 % 256 = 0 := by omega
  have e3 : (n : Int) / 16777216 % 256 = 0 := by omega
  rw [e1, e2, e3]

set_option maxHeartbeats 400000 in
theorem rput_any (w : World) (v : Value) (l : List UInt8) (hl : Bytes w v l) :
    Calls Tryd.prog 31 #[v] w fun e w' => ∃ v', e = .returned (.tuple #[v', .int .i64 (putR l).2]) ∧ OwnB w' w.heap.size v' (putR l).1 ∧ Ext w w' := by
  obtain ⟨a, cap, rfl, hc, hm⟩ := hl.shape
  unfold maxLen at hm
  by_cases h1 : l.length = 0
  · have hd1 : ((l.length : Int) == 0) = true := beq_iff_eq.2 (by omega)
    have hr : putR l = ([], 1) := by rw [putR, if_pos h1]
    have HR := Lib.hid hr; clear hr h1
    go_enter Tryd.func31, Tryd.ntmps31
    go_wp2_with fail
    go_ret2
    refine ⟨.slice none 0 0, ?_, ?_, Ext.refl w⟩
    · rw [HR.out]; rfl
    · rw [HR.out]; exact OwnB.nil _ _
  · have hd1 : ((l.length : Int) == 0) = false := beq_eq_false_iff_ne.2 (by omega)
    by_cases h2 : l.length ≤ 2048
    · have hd2 : decide ((2048 : Int) < (l.length : Int)) = false := decide_eq_false (by omega)
      have hr : putR l = (fr l, 0) := by rw [putR, if_neg h1, if_neg (by omega)]
      have HR := Lib.hid hr; clear hr h1
      have hlit : OwnB (w.alloc (.cells #[.int .u8 ((l.length : Int) % 256), .int .u8 ((l.length : Int) / 256), .int .u8 0, .int .u8 0] 5)) w.heap.size (.slice (some ⟨w.heap.size, 0, none⟩) 4 4) (fourF l.length) := by
        unfold OwnB
        rw [← four_low _ h2]
        exact World.ownsRow_lit w _ 4 (Nat.le_refl _) (by decide) rfl
      have hx0 : Ext w (w.alloc (.cells #[.int .u8 ((l.length : Int) % 256), .int .u8 ((l.length : Int) / 256), .int .u8 0, .int .u8 0] 5)) := (Ext.refl w).alloc _
      go_enter Tryd.func31, Tryd.ntmps31
      go_wp2_with (at_builtin; refine appB (.tmp 21) (.tmp 22) rfl rfl w.heap.size hlit (hl.ext hx0) (by rw [fourF_length]; omega) hx0.size ?_; intro v2 w2 ho2 hg2)
      have hx2 : Ext w w2 := hx0.mono_grown hlit (Nat.le_refl _) hg2
      refine (ref_put _ _ _ ho2.bytes (by rw [List.length_append, fourF_length]; omega)).mono ?_
      rintro e w3 ⟨v3, rfl, ho3, hx3⟩
      go_wp2_with fail
      go_ret2
      refine ⟨v3, ?_, ?_, hx2.trans hx3⟩
      · rw [HR.out]; rfl
      · rw [HR.out]; exact ho3.mono hx2.size
    · have hd2 : decide ((2048 : Int) < (l.length : Int)) = true := decide_eq_true (by omega)
      have hr : putR l = ([], 3) := by rw [putR, if_neg h1, if_pos (by omega)]
      have HR := Lib.hid hr; clear hr h1
      go_enter Tryd.func31, Tryd.ntmps31
      go_wp2_with fail
      go_ret2
      refine ⟨.slice none 0 0, ?_, ?_, Ext.refl w⟩
      · rw [HR.out]; rfl
      · rw [HR.out]; exact OwnB.nil _ _

/-- A slice of slices that can be read. -/
def Lists (W : World) (v : Value) (rs : List (List UInt8)) : Prop :=
  ∃ us, Row W 1 v rs.length us ∧ ∀ (i : Nat) (u : Value) (r : List UInt8), us[i]? = some u → rs[i]? = some r → Bytes W u r
theorem Lists.ext {W W' : World} {v : Value} {rs : List (List UInt8)} (h : Lists W v rs) (hx : Ext W W') : Lists W' v rs := by
  obtain ⟨us, h1, h2⟩ := h; exact ⟨us, h1.ext hx, fun i u r a b => (h2 i u r a b).ext hx⟩
theorem Lists.shape {W : World} {v : Value} {rs : List (List UInt8)} (h : Lists W v rs) : ∃ a cap, v = .slice a rs.length cap ∧ rs.length ≤ cap ∧ cap ≤ maxLen := by
  obtain ⟨_, ⟨_, a, cap, h1, h2, h3, _⟩, _⟩ := h; exact ⟨a, cap, h1, h2, h3⟩
theorem Lists.at {W : World} {a : Option Addr} {n cap : Nat} {rs : List (List UInt8)} (h : Lists W (.slice a n cap) rs) {k : Nat} (hk : k < rs.length) :
    ∃ b o u, a = some ⟨b, o, none⟩ ∧ W.cell? ⟨b, o + k, none⟩ = some u ∧ Bytes W u rs[k] := by
  obtain ⟨us, ⟨hl, a', cap', e, hc, hm, hnil, hspot, hcell⟩, h2⟩ := h
  simp only [Value.slice.injEq] at e
  obtain ⟨rfl, rfl, rfl⟩ := e
  have hku : k < us.length := by omega
  obtain ⟨p, rfl, hp⟩ := hcell k us[k] (by simp [hku])
  obtain ⟨pb, po, ps⟩ := p
  have := hspot _ rfl (by omega)
  simp only at this; subst this
  exact ⟨pb, po, us[k], rfl, hp, h2 k _ _ (by simp [hku]) (by simp [hk])⟩

theorem take_next {α : Type} {l1 l2 : List α} {k : Nat} (h1 : k < l1.length) (h2 : k < l2.length) (ht : l1.take k = l2.take k) (e : l1[k] = l2[k]) : l1.take (k + 1) = l2.take (k + 1) := by
  rw [List.take_succ_eq_append_getElem h1, List.take_succ_eq_append_getElem h2, ht, e]
theorem take_differ {α : Type} {l1 l2 : List α} {k : Nat} (h1 : k < l1.length) (h2 : k < l2.length) (e : ¬ l1[k] = l2[k]) : l1 ≠ l2 := by
  intro h; subst h; exact e rfl

end Go.Proofs.YtkaepcjkpaplfaaDoor
