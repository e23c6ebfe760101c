/- Subs (24): no table. -/
import Derived.Test.YtlhbpflcffjhmaaGreatPk16
namespace Go.Proofs.YtlhbpflcffjhmaaGreat
open Go.RowKit Go.Sort Go.MapKept

set_option maxRecDepth 100000 in
theorem nilS_made (w : World) : Calls Tryz.prog 43 #[.pointer none] w fun e w' => e = .returned (.bool false) ∧ Ext w w' := by
  have hpn : ∀ (w : World), (binOp .neq 33 (.pointer none) (.pointer none)).run Tryz.prog w = .ok (.bool false) w := fun w => by kernel_rfl
  go_enter Tryz.func43, Tryz.ntmps43
  go_wp2_with fail
  exact bodyPost_ret (v := .bool false) (by simp [results, Tryz.results43, go_sem]) rfl ⟨rfl, Ext.refl _⟩
set_option maxRecDepth 100000 in
theorem nilS_at (w : World) (n : Int) (va : Option Addr) (vn vc : Nat) : Calls Tryz.prog 48 #[.pointer none, .int .i64 n, .slice va vn vc] w fun e w' => e = .returned (.tuple #[.pointer none, .slice none 0 0, .int .i64 2]) ∧ Ext w w' := by
  go_enter Tryz.func48, Tryz.ntmps48
  go_wp2_with (go_at_call 43; (with_reducible refine (nilS_made _).mono ?_); rintro e w1 ⟨rfl, hx⟩; have HX := Lib.hid hx; clear hx)
  exact bodyPost_ret (v := .tuple #[.pointer none, .slice none 0 0, .int .i64 2]) (by simp [results, Tryz.results48, go_sem]) rfl ⟨rfl, HX.out⟩
set_option maxRecDepth 100000 in
theorem nilS_own (w : World) : Calls Tryz.prog 14 #[.pointer none, .slice none 0 0] w fun e w' => e = .returned (.int .i64 2) ∧ Ext w w' := by
  go_enter Tryz.func14, Tryz.ntmps14
  go_wp2_with (go_at_call 43; (with_reducible refine (nilS_made _).mono ?_); rintro e w1 ⟨rfl, hx⟩; have HX := Lib.hid hx; clear hx)
  exact bodyPost_ret (v := .int .i64 2) (by simp [results, Tryz.results14, go_sem]) rfl ⟨rfl, HX.out⟩
set_option maxRecDepth 100000 in
theorem nilS_disown (w : World) : Calls Tryz.prog 15 #[.pointer none, .slice none 0 0] w fun e w' => e = .returned (.int .i64 2) ∧ Ext w w' := by
  go_enter Tryz.func15, Tryz.ntmps15
  go_wp2_with (go_at_call 43; (with_reducible refine (nilS_made _).mono ?_); rintro e w1 ⟨rfl, hx⟩; have HX := Lib.hid hx; clear hx)
  exact bodyPost_ret (v := .int .i64 2) (by simp [results, Tryz.results15, go_sem]) rfl ⟨rfl, HX.out⟩
set_option maxRecDepth 100000 in
theorem nilS_learn (w : World) : Calls Tryz.prog 16 #[.pointer none, .int .i64 0, .slice none 0 0] w fun e w' => e = .returned (.int .i64 2) ∧ Ext w w' := by
  go_enter Tryz.func16, Tryz.ntmps16
  go_wp2_with (go_at_call 48; (with_reducible refine (nilS_at _ _ _ _ _).mono ?_); rintro e w1 ⟨rfl, hx⟩; have HX := Lib.hid hx; clear hx)
  exact bodyPost_ret (v := .int .i64 2) (by simp [results, Tryz.results16, go_sem]) rfl ⟨rfl, HX.out⟩
set_option maxRecDepth 100000 in
theorem nilS_forget (w : World) : Calls Tryz.prog 17 #[.pointer none, .int .i64 0, .slice none 0 0] w fun e w' => e = .returned (.int .i64 2) ∧ Ext w w' := by
  go_enter Tryz.func17, Tryz.ntmps17
  go_wp2_with (go_at_call 48; (with_reducible refine (nilS_at _ _ _ _ _).mono ?_); rintro e w1 ⟨rfl, hx⟩; have HX := Lib.hid hx; clear hx)
  exact bodyPost_ret (v := .int .i64 2) (by simp [results, Tryz.results17, go_sem]) rfl ⟨rfl, HX.out⟩
set_option maxRecDepth 100000 in
theorem nilS_ads (w : World) : Calls Tryz.prog 18 #[.pointer none, .int .i64 0, .slice none 0 0] w fun e w' => e = .returned (.int .i64 2) ∧ Ext w w' := by
  go_enter Tryz.func18, Tryz.ntmps18
  go_wp2_with (go_at_call 48; (with_reducible refine (nilS_at _ _ _ _ _).mono ?_); rintro e w1 ⟨rfl, hx⟩; have HX := Lib.hid hx; clear hx)
  exact bodyPost_ret (v := .int .i64 2) (by simp [results, Tryz.results18, go_sem]) rfl ⟨rfl, HX.out⟩
set_option maxRecDepth 100000 in
theorem nilS_reset (w : World) : Calls Tryz.prog 19 #[.pointer none, .int .i64 0] w fun e w' => e = .returned (.int .i64 2) ∧ Ext w w' := by
  go_enter Tryz.func19, Tryz.ntmps19
  go_wp2_with (go_at_call 48; (with_reducible refine (nilS_at _ _ _ _ _).mono ?_); rintro e w1 ⟨rfl, hx⟩; have HX := Lib.hid hx; clear hx)
  exact bodyPost_ret (v := .int .i64 2) (by simp [results, Tryz.results19, go_sem]) rfl ⟨rfl, HX.out⟩
set_option maxRecDepth 100000 in
theorem nilS_changes (w : World) : Calls Tryz.prog 20 #[.pointer none, .int .i64 0] w fun e w' => e = .returned (.tuple #[.slice none 0 0, .slice none 0 0, .int .i64 2]) ∧ Ext w w' := by
  go_enter Tryz.func20, Tryz.ntmps20
  go_wp2_with (go_at_call 48; (with_reducible refine (nilS_at _ _ _ _ _).mono ?_); rintro e w1 ⟨rfl, hx⟩; have HX := Lib.hid hx; clear hx)
  exact bodyPost_ret (v := .tuple #[.slice none 0 0, .slice none 0 0, .int .i64 2]) (by simp [results, Tryz.results20, go_sem]) rfl ⟨rfl, HX.out⟩
set_option maxRecDepth 100000 in
theorem nilS_sent (w : World) : Calls Tryz.prog 22 #[.pointer none, .int .i64 0] w fun e w' => e = .returned (.slice none 0 0) ∧ Ext w w' := by
  go_enter Tryz.func22, Tryz.ntmps22
  go_wp2_with (go_at_call 48; (with_reducible refine (nilS_at _ _ _ _ _).mono ?_); rintro e w1 ⟨rfl, hx⟩; have HX := Lib.hid hx; clear hx)
  exact bodyPost_ret (v := .slice none 0 0) (by simp [results, Tryz.results22, go_sem]) rfl ⟨rfl, HX.out⟩
set_option maxRecDepth 100000 in
theorem nilS_came (w : World) : Calls Tryz.prog 21 #[.pointer none, .int .i64 0] w fun e w' => e = .returned (.slice none 0 0) ∧ Ext w w' := by
  go_enter Tryz.func21, Tryz.ntmps21
  go_wp2_with (go_at_call 48; (with_reducible refine (nilS_at _ _ _ _ _).mono ?_); rintro e w1 ⟨rfl, hx⟩; have HX := Lib.hid hx; clear hx)
  exact bodyPost_ret (v := .slice none 0 0) (by simp [results, Tryz.results21, go_sem]) rfl ⟨rfl, HX.out⟩
set_option maxRecDepth 100000 in
theorem nilS_wants (w : World) : Calls Tryz.prog 25 #[.pointer none, .int .i64 0, .agg #[.string ⟨#[]⟩, .slice none 0 0]] w fun e w' => e = .returned (.bool false) ∧ Ext w w' := by
  have hx0 := (Ext.refl w).alloc (.cells #[.string ⟨#[]⟩, .slice none 0 0] 52)
  have HX0 := Lib.hid hx0
  have hco := fun W => hasQ_any W (.slice none 0 0) [] (RowQ.nil 0 W).preds 57 #[.pointer (some ⟨w.heap.size, 0, none⟩)] (fun _ => false) ent_wants1 fun W' x hW' hx => by cases hx
  have HCO := Lib.hid hco
  clear hx0 hco
  go_enter Tryz.func25, Tryz.ntmps25
  go_wp2_with (first
    | (go_at_call 21; (with_reducible refine (nilS_came _).mono ?_); rintro e w1 ⟨rfl, hx⟩; have HX1 := Lib.hid (HX0.out.trans hx); clear hx)
    | (go_at_call 49; (with_reducible refine (HCO.out _).mono ?_); rintro e w2 ⟨rfl, hx⟩; have HX := Lib.hid (HX1.out.trans hx); clear hx))
  exact bodyPost_ret (v := .bool false) (by simp [results, Tryz.results25, go_sem]) rfl ⟨rfl, HX.out⟩
end Go.Proofs.YtlhbpflcffjhmaaGreat
