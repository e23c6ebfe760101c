/- No table of ads (23), and one without its map. -/
import Derived.Test.YtabegbelkfhbcaaGreatPk13
namespace Go.Proofs.YtabegbelkfhbcaaGreat
open Go.RowKit Go.MapKept

def NilT (w : World) (v : Value) : Prop := v = .pointer none ∨ ∃ b, v = .pointer (some ⟨b, 0, none⟩) ∧ w.heap[b]? = some (.cells #[.map none] 45 (0, 0))
theorem NilT.ext {w w' : World} {v : Value} (h : NilT w v) (hx : Ext w w') : NilT w' v := h.imp id fun ⟨b, e, hb⟩ => ⟨b, e, block_later hb hx⟩
theorem NilT.shape {w : World} {v : Value} (h : NilT w v) : ∃ a, v = .pointer a := by
  rcases h with rfl | ⟨b, rfl, _⟩
  · exact ⟨_, rfl⟩
  · exact ⟨_, rfl⟩
theorem none_yes (w : World) (v : Value) (h : NilT w v) : Calls Tryz.prog 22 #[v] w fun e w' => e = .returned (.bool true) ∧ w' = w := by
  rcases h with rfl | ⟨b, rfl, hb⟩
  · have hp : ∀ (w : World), (binOp .eql 28 (.pointer none) (.pointer none)).run Tryz.prog w = .ok (.bool true) w := fun w => by kernel_rfl
    go_enter Tryz.func22, Tryz.ntmps22
    go_wp2
    go_ret
    exact ⟨rfl, rfl⟩
  · have h0 := cell_of_row _ _ 0 _ _ _ hb
    have hq : ∀ (w : World), (binOp .eql 43 (.map none) (.map none)).run Tryz.prog w = .ok (.bool true) w := fun w => by
      have := run_eql_map_nil (P := Tryz.prog) w 43 3 67 none Tryz.underlying43
      simpa using this
    have hp : ∀ (w : World) (x : Addr), (binOp .eql 28 (.pointer (some x)) (.pointer none)).run Tryz.prog w = .ok (.bool false) w := fun w x => by kernel_rfl
    go_enter Tryz.func22, Tryz.ntmps22
    go_wp2
    go_ret
    exact ⟨rfl, rfl⟩
theorem learn_nil (w : World) (v : Value) (h : NilT w v) (link : Int) (p u : Int) (a : Option Addr) (n c : Nat) : Calls Tryz.prog 9 #[v, .int .i64 link, .agg #[.int .i64 p, .int .u64 u, .slice a n c]] w fun e w' => e = .returned (.tuple #[.bool false, .int .i64 2]) ∧ Ext w w' := by
  have hx0 := (Ext.refl w).alloc (.cells #[.int .i64 p, .int .u64 u, .slice a n c] 30)
  have HN := Lib.hid (none_yes _ v (h.ext hx0))
  obtain ⟨b, rfl⟩ := h.shape
  have HX := Lib.hid hx0
  clear hx0 h
  go_enter Tryz.func9, Tryz.ntmps9
  go_wp2_with (go_at_call 22; refine HN.out.mono ?_; rintro e w1 ⟨rfl, rfl⟩)
  exact bodyPost_ret (v := .tuple #[.bool false, .int .i64 2]) (by simp [results, Tryz.results9, go_sem]) rfl ⟨rfl, HX.out⟩
theorem withdraw_nil (w : World) (v : Value) (h : NilT w v) (link p : Int) : Calls Tryz.prog 14 #[v, .int .i64 link, .int .i64 p] w fun e w' => e = .returned (.int .i64 2) ∧ Ext w w' := by
  have HN := Lib.hid (none_yes _ v h)
  obtain ⟨b, rfl⟩ := h.shape
  clear h
  go_enter Tryz.func14, Tryz.ntmps14
  go_wp2_with (go_at_call 22; refine HN.out.mono ?_; rintro e w1 ⟨rfl, rfl⟩)
  go_ret
  exact ⟨rfl, Ext.refl _⟩
theorem those_nil (w : World) (v : Value) (h : NilT w v) (g : Nat) (cb : Array Value) : Calls Tryz.prog 30 #[v, .func (.func g) #[] cb] w fun e w' => e = .returned (.slice none 0 0) ∧ Ext w w' := by
  have HN := Lib.hid (none_yes _ v h)
  obtain ⟨b, rfl⟩ := h.shape
  clear h
  go_enter Tryz.func30, Tryz.ntmps30
  go_wp2_with (go_at_call 22; refine HN.out.mono ?_; rintro e w1 ⟨rfl, rfl⟩)
  go_ret
  exact ⟨rfl, Ext.refl _⟩
theorem list_nil (w : World) (a : Option Addr) : Calls Tryz.prog 29 #[.pointer a, .slice none 0 0] w fun e w' => e = .returned (.slice none 0 0) ∧ Ext w w' := by
  go_enter Tryz.func29, Tryz.ntmps29
  go_wp2_with fail
  go_loopw [5, 10] (fun s i wr => s = .slice none 0 0 ∧ i = .int .i64 0 ∧ Ext w wr) (fun _ _ _ => 0)
  case atStart => exact ⟨rfl, rfl, Ext.refl w⟩
  case round =>
    obtain ⟨rfl, rfl, hx⟩ := hrel
    have hI : decide ((0 : Int) < 0) = false := by decide
    go_wp2_with fail
    go_ret
    exact ⟨rfl, hx⟩
theorem tall_nil (w : World) (v : Value) (h : NilT w v) : Calls Tryz.prog 13 #[v] w fun e w' => e = .returned (.slice none 0 0) ∧ Ext w w' := by
  have HN := Lib.hid (those_nil _ v h 31 #[])
  obtain ⟨b, rfl⟩ := h.shape
  clear h
  go_enter Tryz.func13, Tryz.ntmps13
  go_wp2_with (first
    | (go_at_call 30; refine HN.out.mono ?_; rintro e w1 ⟨rfl, hx⟩; have HX := Lib.hid hx; clear hx)
    | (go_at_call 29; refine (list_nil _ _).mono ?_; rintro e w2 ⟨rfl, hx⟩; have HX2 := Lib.hid hx; clear hx))
  go_ret
  exact ⟨rfl, HX.out.trans HX2.out⟩
theorem forget_nil (w : World) (v : Value) (h : NilT w v) (link : Int) : Calls Tryz.prog 15 #[v, .int .i64 link] w fun e w' => e = .returned (.slice none 0 0) ∧ Ext w w' := by
  have hx0 := (Ext.refl w).alloc (.cells #[.int .i64 link] 3)
  have HN := Lib.hid (those_nil _ v (h.ext hx0) 32 #[.pointer (some ⟨w.heap.size, 0, none⟩)])
  obtain ⟨b, rfl⟩ := h.shape
  have HX0 := Lib.hid hx0
  clear h hx0
  go_enter Tryz.func15, Tryz.ntmps15
  go_wp2_with (go_at_call 30; refine HN.out.mono ?_; rintro e w1 ⟨rfl, hx⟩; have HX := Lib.hid (HX0.out.trans hx); clear hx)
  go_loopw [13] (fun i wr => i = .int .i64 0 ∧ Hid (Ext w wr)) (fun _ _ => 0)
  case atStart => exact ⟨rfl, HX.out⟩
  case round =>
    obtain ⟨rfl, hx⟩ := hrel
    have hI : decide ((0 : Int) < 0) = false := by decide
    go_wp2_with fail
    go_ret
    exact ⟨rfl, hx.out⟩
theorem wants_nil (w : World) (v : Value) (h : NilT w v) (link : Int) : Calls Tryz.prog 16 #[v, .int .i64 link, .slice none 0 0] w fun e w' => e = .returned (.bool false) ∧ Ext w w' := by
  have hx0 := ((Ext.refl w).alloc (.cells #[.int .i64 link] 3)).alloc (.cells #[.slice none 0 0] 25)
  have HN := Lib.hid (those_nil _ v (h.ext hx0) 33 #[.pointer (some ⟨w.heap.size, 0, none⟩), .pointer (some ⟨w.heap.size + 1, 0, none⟩)])
  obtain ⟨b, rfl⟩ := h.shape
  have HX0 := Lib.hid hx0
  clear h hx0
  go_enter Tryz.func16, Tryz.ntmps16
  go_wp2_with (go_at_call 30; refine HN.out.mono ?_; rintro e w1 ⟨rfl, hx⟩; have HX := Lib.hid (HX0.out.trans hx); clear hx)
  go_ret
  exact ⟨rfl, HX.out⟩
theorem copy_nil (w : World) (v : Value) (h : NilT w v) : Calls Tryz.prog 12 #[v] w fun e w' => e = .returned (.pointer none) ∧ Ext w w' := by
  have HN := Lib.hid (none_yes _ v h)
  obtain ⟨b, rfl⟩ := h.shape
  clear h
  go_enter Tryz.func12, Tryz.ntmps12
  go_wp2_with (go_at_call 22; refine HN.out.mono ?_; rintro e w1 ⟨rfl, rfl⟩)
  go_ret
  exact ⟨rfl, Ext.refl _⟩
theorem bypub_nil (w : World) (v : Value) (h : NilT w v) (p : Int) : Calls Tryz.prog 8 #[v, .int .i64 p] w fun e w' => e = .returned (.tuple #[.int .i64 0, .agg #[.int .i64 0, .int .u64 0, .slice none 0 0], .bool false]) ∧ Ext w w' := by
  obtain ⟨hx0, hb1⟩ := boxes1 w (.cells #[.int .i64 0, .int .u64 0, .slice none 0 0] 30)
  have HN := Lib.hid (none_yes _ v (h.ext hx0))
  obtain ⟨b, rfl⟩ := h.shape
  have HX := Lib.hid hx0
  have HB := Lib.hid hb1
  clear hx0 h hb1
  go_enter Tryz.func8, Tryz.ntmps8
  go_upto_region 2 with (go_at_call 22; refine HN.out.mono ?_; rintro e w1 ⟨rfl, rfl⟩)
  generalize w.alloc (.cells #[.int .i64 0, .int .u64 0, .slice none 0 0] 30) = w0 at *
  go_wp2_with (refine wpList_store_whole 30 (.tmp 5) (.tmp 11) rfl rfl w.heap.size rfl #[.int .i64 0, .int .u64 0, .slice none 0 0] rfl _ 30 HB.out rfl info_adS (by simp [Value.oneCell']) ?_)
  have hq := setRow_heap _ _ _ #[.int .i64 0, .int .u64 0, .slice none 0 0] _ _ HB.out
  have g0 := cell_of_row _ _ 0 _ _ _ hq
  have g1 := cell_of_row _ _ 1 _ _ _ hq
  have g2 := cell_of_row _ _ 2 _ _ _ hq
  exact bodyPost_ret (v := .tuple #[.int .i64 0, .agg #[.int .i64 0, .int .u64 0, .slice none 0 0], .bool false]) (by simp [results, Tryz.results8, go_sem, g0, g1, g2]) rfl ⟨rfl, HX.out.setRow (Nat.le_refl _) _⟩
end Go.Proofs.YtabegbelkfhbcaaGreat
