/- A frame's record, walked. -/
import Derived.Test.YtkaepcjkpaplfaaDoorN4
import Derived.Laws.ResultCell
namespace Go.Proofs.YtkaepcjkpaplfaaDoor
open Go.RowKit

theorem vget_lt (most : Nat) (l : List UInt8) : (vget most l).2.1 ≤ most := by
  unfold vget
  split
  · exact Nat.zero_le _
  · split
    · exact Nat.zero_le _
    · show (vgetN 0 0 l).2.1 ≤ most
      omega

/-- Own bytes stay where two cells of an older block are written. -/
theorem own_keep {w4 : World} {base R : Nat} {v x y : Value} {l : List UInt8} (h : OwnB w4 base v l) (hb : R < base) : OwnB ((w4.setCell ⟨R, 0, none⟩ x).setCell ⟨R, 1, none⟩ y) (R + 1) v l := by
  refine ⟨h.1, ?_⟩
  rcases h.2 with h2 | ⟨g, cap, cur, hv, hg, hh, r⟩
  · exact .inl h2
  · refine .inr ⟨g, cap, cur, hv, by omega, ?_, r⟩
    rw [Below.heap_setCell _ _ _ _ (by simp; omega), Below.heap_setCell _ _ _ _ (by simp; omega)]
    exact hh

theorem rec_end {w2 : World} {R n : Nat} {u0 u1 : Value} {a : Option Addr} {m c : Nat} {b : Bool} {tmps : Array Value} {Q : Ending → World → Prop} (h : w2.heap[R]? = some (.cells #[u0, u1] 40 (0, 0)))
    (h2 : tmps.getD 2 undef = .pointer (some ⟨R, 0, none⟩)) (h3 : tmps.getD 3 undef = .bool b)
    (hQ : Q (.returned (.tuple #[.agg #[.int .u64 n, .slice a m c], .bool b])) ((w2.setCell ⟨R, 0, none⟩ (.int .u64 n)).setCell ⟨R, 1, none⟩ (.slice a m c))) :
    bodyPost Tryd.prog Tryd.f34 Q Exit.ret { tmps := tmps, defers := [] } ((w2.setCell ⟨R, 0, none⟩ (.int .u64 n)).setCell ⟨R, 1, none⟩ (.slice a m c)) := by
  have e1 : (w2.setCell ⟨R, 0, none⟩ (.int .u64 n)).heap[R]? = some (.cells #[.int .u64 n, u1] 40 (0, 0)) := by rw [heap_setCell_same _ _ _ _ _ _ h]; rfl
  have e2 : ((w2.setCell ⟨R, 0, none⟩ (.int .u64 n)).setCell ⟨R, 1, none⟩ (.slice a m c)).heap[R]? = some (.cells #[.int .u64 n, .slice a m c] 40 (0, 0)) := by rw [heap_setCell_same _ _ _ _ _ _ e1]; rfl
  generalize (w2.setCell ⟨R, 0, none⟩ (.int .u64 n)).setCell ⟨R, 1, none⟩ (.slice a m c) = W at *
  have c0 := cell_of_row W R 0 _ _ _ e2
  have c1 := cell_of_row W R 1 _ _ _ e2
  refine bodyPost_ret ?_ rfl hQ
  rw [results_cell_tmp rfl, h2, h3]
  simp at c0 c1
  simp [go_sem, c0, c1]

set_option maxRecDepth 100000 in
set_option maxHeartbeats 2000000 in
theorem record_any (w : World) (v : Value) (f : List UInt8) (hf : Bytes w v f) (hn : f.length ≤ 100000000000000) :
    Calls Tryd.prog 34 #[v] w fun e W => ∃ (n : Nat) (a : Option Addr) (m c : Nat), e = .returned (.tuple #[.agg #[.int .u64 n, .slice a m c], .bool (recF f).isSome]) ∧
      (∀ x, recF f = some x → x.1 = n ∧ OwnB W w.heap.size (.slice a m c) x.2) ∧ n ≤ 1099511627776 ∧ Ext w W := by
  obtain ⟨a, cap, rfl, hc, hm⟩ := hf.shape
  unfold maxLen at hm
  go_enter Tryd.func34, Tryd.ntmps34
  go_wp2_with fail
  have hx0 : Ext w (w.alloc (.cells #[.int .u64 0, .slice none 0 0] 40)) := (Ext.refl w).alloc _
  have hR : (w.alloc (.cells #[.int .u64 0, .slice none 0 0] 40)).heap[w.heap.size]? = some (.cells #[.int .u64 0, .slice none 0 0] 40 (0, 0)) := heap_alloc_new _ _
  have hlt : w.heap.size < (w.alloc (.cells #[.int .u64 0, .slice none 0 0] 40)).heap.size := by simp
  have hf0 := hf.ext hx0
  generalize w.alloc (.cells #[.int .u64 0, .slice none 0 0] 40) = wa at *
  have HR := Lib.hid hR
  clear hR
  refine (new_any _ _ f hf0 (by omega)).mono ?_
  rintro e w1 ⟨w0, B, vl, rfl, hr, hx1⟩
  go_wp2_with fail
  refine (rnum_any _ _ B vl f 1099511627776 hr (by omega)).mono ?_
  rintro e w2 ⟨vr, rfl, hr2⟩
  have hk := vget_rest 1099511627776 f
  have hle := vget_lt 1099511627776 f
  have hrec : Hid (recF f = if (vget 1099511627776 f).1 ≠ 0 ∨ (vget 1099511627776 f).2.1 = 0 ∨ 1500 < (vget 1099511627776 f).2.2.length then none else some ((vget 1099511627776 f).2.1, (vget 1099511627776 f).2.2)) := rfl
  generalize (vget 1099511627776 f).1 = er at *
  generalize (vget 1099511627776 f).2.1 = n at *
  generalize (vget 1099511627776 f).2.2 = rest at *
  have hx2 : Ext wa w2 := hx1.trans hr2.ext
  have hxw : Ext w w2 := hx0.trans hx2
  have HR2 := Lib.hid ((hx2.block w.heap.size hlt).trans HR.out)
  have hf2 := hf.ext hxw
  have hcell0 : ∀ W, Ext w2 W → W.heap[w.heap.size]? = some (.cells #[.int .u64 0, .slice none 0 0] 40 (0, 0)) := fun W hW => (hW.block _ (Nat.lt_of_lt_of_le hlt hx2.size)).trans HR2.out
  by_cases her : er = 0
  · subst her
    by_cases hn0 : n = 0
    · subst hn0
      have hnone : Hid ((recF f).isSome = false) := by show _ = _; rw [hrec.out, if_pos (.inr (.inl rfl))]; rfl
      have hno : ∀ x, recF f = some x → False := by intro x hx; rw [hrec.out, if_pos (.inr (.inl rfl))] at hx; cases hx
      clear hrec
      have c0 : w2.cell? ⟨w.heap.size, 0, none⟩ = some (.int .u64 0) := cell_of_row _ w.heap.size 0 _ _ _ HR2.out
      have c1 : w2.cell? ⟨w.heap.size, 1, none⟩ = some (.slice none 0 0) := cell_of_row _ w.heap.size 1 _ _ _ HR2.out
      have z0 : w2.frozen? ⟨w.heap.size, 0, none⟩ = false := by simp [World.frozen?, HR2.out]
      have z1 : w2.frozen? ⟨w.heap.size, 1, none⟩ = false := by simp [World.frozen?, HR2.out]
      go_wp2_with fail
      exact rec_end HR2.out rfl rfl ⟨0, none, 0, 0, by rw [hnone.out], fun x hx => (hno x hx).elim, Nat.zero_le _, (hxw.setCell (Nat.le_refl _) _).setCell (Nat.le_refl _) _⟩
    · have hn1 : ((n : Int) == 0) = false := beq_eq_false_iff_ne.2 (by omega)
      by_cases hlong : 1500 < rest.length
      · have hnone : Hid ((recF f).isSome = false) := by show _ = _; rw [hrec.out, if_pos (.inr (.inr hlong))]; rfl
        have hno : ∀ x, recF f = some x → False := by intro x hx; rw [hrec.out, if_pos (.inr (.inr hlong))] at hx; cases hx
        clear hrec
        have c0 : w2.cell? ⟨w.heap.size, 0, none⟩ = some (.int .u64 0) := cell_of_row _ w.heap.size 0 _ _ _ HR2.out
        have c1 : w2.cell? ⟨w.heap.size, 1, none⟩ = some (.slice none 0 0) := cell_of_row _ w.heap.size 1 _ _ _ HR2.out
        have z0 : w2.frozen? ⟨w.heap.size, 0, none⟩ = false := by simp [World.frozen?, HR2.out]
        have z1 : w2.frozen? ⟨w.heap.size, 1, none⟩ = false := by simp [World.frozen?, HR2.out]
        have hd : decide ((1500 : Int) < (rest.length : Int)) = true := decide_eq_true (by omega)
        go_wp2_with fail
        refine (left_any _ _ B vr rest hr2).mono ?_
        rintro e w3 ⟨rfl, rfl⟩
        go_wp2_with fail
        exact rec_end HR2.out rfl rfl ⟨0, none, 0, 0, by rw [hnone.out], fun x hx => (hno x hx).elim, Nat.zero_le _, (hxw.setCell (Nat.le_refl _) _).setCell (Nat.le_refl _) _⟩
      · have hsome : Hid (recF f = some (n, rest)) := by show _ = _; rw [hrec.out, if_neg (by rintro (h | h | h); exact h rfl; exact hn0 h; exact hlong h)]
        clear hrec
        obtain ⟨k, hk1, hk2⟩ := hk
        have hrl : rest.length = f.length - k := by rw [hk2, List.length_drop]
        have HK2 := Lib.hid hk2
        clear hk2
        have e1 : 0 ≤ ((f.length : Int) - (rest.length : Int)) ∧ ((f.length : Int) - (rest.length : Int)).toNat = k := by omega
        have E1 := Lib.hid e1
        have hrf : (rest.length : Int) ≤ (f.length : Int) := by omega
        clear e1 hrl
        have hd : decide ((1500 : Int) < (rest.length : Int)) = false := decide_eq_false (by omega)
        go_wp2_with fail
        refine (left_any _ _ B vr rest hr2).mono ?_
        rintro e w3 ⟨rfl, rfl⟩
        go_wp2_with fail
        refine (left_any _ _ B vr rest hr2).mono ?_
        rintro e w3 ⟨rfl, rfl⟩
        go_wp2_with (refine cutB (.tmp 27) (some (.tmp 32)) none k f.length rfl rfl hf2 ⟨_, _, rfl, E1.out.1, E1.out.2⟩ rfl hk1 (Nat.le_refl _) ?_; intro v33 h33; rw [List.take_length, ← HK2.out] at h33)
        refine (bclone_any _ _ rest h33 (by omega)).mono ?_
        rintro e w4 ⟨v4, rfl, ho4, hx4⟩
        obtain ⟨a4, c4, rfl, -, -⟩ := (OwnB.bytes ho4).shape
        have HR4 := Lib.hid (hcell0 w4 hx4)
        have c0 : w4.cell? ⟨w.heap.size, 0, none⟩ = some (.int .u64 0) := cell_of_row _ w.heap.size 0 _ _ _ HR4.out
        have c1 : w4.cell? ⟨w.heap.size, 1, none⟩ = some (.slice none 0 0) := cell_of_row _ w.heap.size 1 _ _ _ HR4.out
        have z0 : w4.frozen? ⟨w.heap.size, 0, none⟩ = false := by simp [World.frozen?, HR4.out]
        have z1 : w4.frozen? ⟨w.heap.size, 1, none⟩ = false := by simp [World.frozen?, HR4.out]
        clear hcell0
        go_wp2_with fail
        refine rec_end HR4.out rfl rfl ⟨n, a4, rest.length, c4, by rw [hsome.out]; rfl, fun x hx => ?_, hle, ((hxw.trans hx4).setCell (Nat.le_refl _) _).setCell (Nat.le_refl _) _⟩
        rw [hsome.out] at hx
        cases hx
        exact ⟨rfl, (own_keep ho4 (Nat.lt_of_lt_of_le hlt hx2.size)).mono (Nat.le_succ _)⟩
  · have hnone : Hid ((recF f).isSome = false) := by show _ = _; rw [hrec.out, if_pos (.inl her)]; rfl
    have hno : ∀ x, recF f = some x → False := by intro x hx; rw [hrec.out, if_pos (.inl her)] at hx; cases hx
    clear hrec
    have c0 : w2.cell? ⟨w.heap.size, 0, none⟩ = some (.int .u64 0) := cell_of_row _ w.heap.size 0 _ _ _ HR2.out
    have c1 : w2.cell? ⟨w.heap.size, 1, none⟩ = some (.slice none 0 0) := cell_of_row _ w.heap.size 1 _ _ _ HR2.out
    have z0 : w2.frozen? ⟨w.heap.size, 0, none⟩ = false := by simp [World.frozen?, HR2.out]
    have z1 : w2.frozen? ⟨w.heap.size, 1, none⟩ = false := by simp [World.frozen?, HR2.out]
    have hd : ((er : Int) != 0) = true := bne_iff_ne.2 (by omega)
    have hd' : ((er : Int) == 0) = false := beq_eq_false_iff_ne.2 (by omega)
    go_wp2_with fail
    exact rec_end HR2.out rfl rfl ⟨0, none, 0, 0, by rw [hnone.out], fun x hx => (hno x hx).elim, Nat.zero_le _, (hxw.setCell (Nat.le_refl _) _).setCell (Nat.le_refl _) _⟩

end Go.Proofs.YtkaepcjkpaplfaaDoor
