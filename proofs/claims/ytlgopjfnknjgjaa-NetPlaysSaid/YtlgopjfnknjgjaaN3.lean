/- none (38), New (21), the closure of Send (37), bytes.Clone (46). -/
import Derived.Test.YtlgopjfnknjgjaaN2
import Derived.Lib.SliceRun
namespace Go.Proofs.Ytlgopjfnknjgjaa
open Go.RowKit Go.MapKept

set_option maxHeartbeats 1000000 in
theorem none_any (w : World) (base bn bm k last : Nat) (L : List PK) (h : NetR w base bn bm k last L) : Calls Try.prog 38 #[.pointer (some ⟨bn, 0, none⟩)] w fun e w' => e = .returned (.bool false) ∧ Ext w w' := by
  obtain ⟨c0, c1, c2⟩ := h.cell
  clear h
  have hq : ∀ (w : World) (r : Nat), (binOp .eql 85 (.map (some r)) (.map none)).run Try.prog w = .ok (.bool false) w := fun w r => by
    have := run_eql_map_nil (P := Try.prog) w 85 28 94 (some r) Try.underlying85
    simpa using this
  go_enter Try.func38, Try.ntmps38
  go_wp2_with fail
  go_ret
  exact ⟨rfl, Ext.refl w⟩
set_option maxHeartbeats 1000000 in
theorem none_nil (w : World) : Calls Try.prog 38 #[.pointer none] w fun e w' => e = .returned (.bool true) ∧ Ext w w' := by
  go_enter Try.func38, Try.ntmps38
  go_wp2_with fail
  go_ret
  exact ⟨rfl, Ext.refl w⟩
set_option maxHeartbeats 1000000 in
theorem new_no (w : World) (k : Int) (hk : k < 1 ∨ 64 < k) : Calls Try.prog 21 #[.int .i64 k] w fun e w' => e = .returned (.tuple #[.pointer none, .int .i64 1]) ∧ Ext w w' := by
  rcases Int.lt_or_le k 1 with h | h
  · have h1 : decide (k < 1) = true := decide_eq_true h
    go_enter Try.func21, Try.ntmps21
    go_wp2_with fail
    go_ret2
    exact ⟨rfl, Ext.refl w⟩
  · have h1 : decide (k < 1) = false := decide_eq_false (by omega)
    have h2 : decide (64 < k) = true := decide_eq_true (by omega)
    go_enter Try.func21, Try.ntmps21
    go_wp2_with fail
    go_ret2
    exact ⟨rfl, Ext.refl w⟩
set_option maxHeartbeats 1000000 in
theorem new_yes (w : World) (k : Nat) (h1 : 1 ≤ k) (h2 : k ≤ 64) : Calls Try.prog 21 #[.int .i64 k] w fun e w' => e = .returned (.tuple #[.pointer (some ⟨w.heap.size + 1, 0, none⟩), .int .i64 0]) ∧ NetR w' w.heap.size (w.heap.size + 1) w.heap.size k 0 [] ∧ Ext w w' := by
  have g1 : decide ((k : Int) < 1) = false := decide_eq_false (by omega)
  have g2 : decide (64 < (k : Int)) = false := decide_eq_false (by omega)
  have hmk : (Instr.makeMap 85 none).run Try.prog w = .ok (.map (some w.heap.size)) (w.alloc (.map #[] 0)) := run_makeMap (P := Try.prog) 85 w
  obtain ⟨hx, hb0, hb1⟩ := boxes2 w (.map #[] 0) (.cells #[.int .i64 k, .int .u64 0, .map (some w.heap.size)] 87)
  have hm := (MapE.made w (.int .u64)).ext ((Ext.refl _).alloc (.cells #[.int .i64 k, .int .u64 0, .map (some w.heap.size)] 87))
  have HM := Lib.hid hm
  have HB := Lib.hid hb1
  have HX := Lib.hid hx
  clear hm hb0 hb1 hx
  go_enter Try.func21, Try.ntmps21
  go_wp2_with fail
  go_ret2
  exact ⟨rfl, ⟨HB.out, HM.out, ⟨Nat.le_succ _, Nat.le_refl _⟩, List.Pairwise.nil, (fun _ h => by cases h), (fun _ h => by cases h), List.Pairwise.nil, (fun _ h => by cases h), h2, Nat.zero_le _, (fun _ h => by cases h)⟩, HX.out⟩
set_option maxHeartbeats 1000000 in
theorem broker_any (w : World) (bx base bn bm k last : Nat) (L : List PK) (h : NetR w base bn bm k last L) (hbx : w.heap[bx]? = some (.cells #[.pointer (some ⟨bn, 0, none⟩)] 48 (0, 0))) (p : Int) : Calls Try.prog 37 #[.int .i64 p, .pointer (some ⟨bx, 0, none⟩)] w fun e w' => e = .returned (.bool (decide (0 ≤ p) && decide (p < k))) ∧ Ext w w' := by
  obtain ⟨c0, c1, c2⟩ := h.cell
  have b0 := cell_of_row _ _ 0 _ _ _ hbx
  clear h c1 c2 hbx
  by_cases hp : 0 ≤ p
  · have h1 : decide (0 ≤ p) = true := decide_eq_true hp
    go_enter Try.func37, Try.ntmps37
    go_wp2_with fail
    go_ret
    exact ⟨by simp [hp], Ext.refl w⟩
  · have h1 : decide (0 ≤ p) = false := decide_eq_false hp
    go_enter Try.func37, Try.ntmps37
    go_wp2_with fail
    go_ret
    exact ⟨by simp, Ext.refl w⟩

theorem info5t : (Try.prog.info? 5).map (fun i => (i.zero, i.size, i.bytes)) = some (some (.int .u8 0), 1, 1) := by kernel_rfl
theorem own_zeroB {w : World} {b n : Nat} {v : Value} {xs : List Value} (h : w.ownsRow b 5 1 v (0 + n) ([] ++ xs)) : w.ownsRow b 5 1 v n xs := by
  rw [Nat.zero_add, List.nil_append] at h; exact h
set_option maxHeartbeats 1000000 in
theorem clone_any (w : World) (v : Value) (l : List UInt8) (hl : Bytes w v l) (hs : l.length ≤ 1000000) : Calls Try.prog 46 #[v] w fun e w' => ∃ v', e = .returned v' ∧ OwnB w' w.heap.size v' l ∧ Ext w w' := by
  obtain ⟨a, cap, rfl, hc, hm⟩ := hl.shape
  unfold maxLen at hm
  have HL := Lib.hid hl
  cases a with
  | none =>
    have hz : l = [] := by
      obtain ⟨_, a', c', e, h1, _, h3, _⟩ := hl
      cases e
      have := h3 rfl
      exact List.eq_nil_of_length_eq_zero (by omega)
    subst hz
    have hnil : cap = 0 := by
      obtain ⟨_, a', c', e, h1, _, h3, _⟩ := hl
      cases e
      exact h3 rfl
    subst hnil
    clear hl HL
    have hnn : ∀ (w : World) (a : Option Addr) (n c n' c' : Nat), (binOp .eql 52 (.slice a n c) (.slice none n' c')).run Try.prog w = .ok (.bool a.isNone) w := fun w a n c n' c' => Lib.run_eql_slice_nil w _ _ a n c n' c' Try.underlying52
    go_enter Try.func46, Try.ntmps46
    go_wp2_with fail
    go_ret
    exact ⟨_, rfl, own_none _ _ _ _, Ext.refl w⟩
  | some p =>
    clear hl
    have hnn : ∀ (w : World) (a : Option Addr) (n c n' c' : Nat), (binOp .eql 52 (.slice a n c) (.slice none n' c')).run Try.prog w = .ok (.bool a.isNone) w := fun w a n c n' c' => Lib.run_eql_slice_nil w _ _ a n c n' c' Try.underlying52
    have hown : (w.alloc (.cells #[] 5)).ownsRow w.heap.size 5 1 (.slice (some ⟨w.heap.size, 0, none⟩) 0 0) 0 [] := World.ownsRow_lit (base := w.heap.size) (e := 5) (size := 1) w #[] 0 (Nat.le_refl _) (by decide) rfl
    have HO := Lib.hid hown
    have hb1 : (0 + l.length) * 1 ≤ 140737488355328 := by omega
    have hb2 : 0 + l.length ≤ maxLen := by unfold maxLen; omega
    have HXA : Hid (Ext w (w.alloc (.cells #[] 5))) := (Ext.refl w).alloc _
    have HLA := Lib.hid (Bytes.ext HL.out HXA.out)
    have hsz : w.heap.size ≤ (w.alloc (.cells #[] 5)).heap.size := HXA.out.size
    clear hown
    go_enter Try.func46, Try.ntmps46
    go_wp2_with (at_builtin; (refine wpList_append_row 52 5 (.tmp 5) (.tmp 6) rfl w.heap.size _ 1 1 Try.underlying52 info5t rfl (by decide) rfl _ 0 [] rfl HO.out l.length (bC l) HLA.out (bC_one l) hb1 hb2 hsz ?_); intro v' w2 hown2 hg; have HO2 := Lib.hid (own_zeroB hown2); have HX2 := Lib.hid (HXA.out.grown_none hg (own_base HO.out)); clear hown2 hg)
    go_ret
    exact ⟨_, rfl, HO2.out, HX2.out⟩
end Go.Proofs.Ytlgopjfnknjgjaa
