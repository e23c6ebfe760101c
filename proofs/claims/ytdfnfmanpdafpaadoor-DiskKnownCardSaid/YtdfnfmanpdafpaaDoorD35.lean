/- Disk: no disk at all: the other calls. (wip/tools/mk35.py) -/
import Derived.Test.YtdfnfmanpdafpaaDoorD34
namespace Go.Proofs.YtdfnfmanpdafpaaDoor
open Go.RowKit

set_option maxRecDepth 100000 in
set_option maxHeartbeats 8000000 in
theorem remove_nil (w : World) (n : List UInt8) : Calls Tryd.prog 22 #[.pointer none, .string (strOf n)] w fun e w' => e = .returned (.int .i64 2) ∧ Ext w w' := by
  have hmf : ∀ (fn : Fn) (first cap : Array Value) (w : World), (Instr.makeFunc fn first cap).run Tryd.prog w = .ok (.func fn first cap) w := fun _ _ _ _ => rfl
  have hth : ∀ W, Calls Tryd.prog 34 #[.pointer none, .string (strOf n)] W fun e w' => ∃ b1 b2, e = .returned (tqV b1 b2) ∧ Ext W w' := fun W => by
    refine (there_any W none (strOf n)).mono ?_
    rintro e w' ⟨rfl, rfl⟩
    exact ⟨_, _, rfl, (boxes2 W _ _).1⟩
  have HTH := Lib.hid hth
  clear hth
  have hfn : ∀ (W : World) (b1 : Nat) (b2 : Nat), Calls Tryd.prog 33 #[.slice (some ⟨W.heap.size, 0, none⟩) 3 3] (W.alloc (.cells #[.func (.func 30) #[.pointer none] #[], tqV b1 b2, .func (.func 39) #[.pointer none] #[]] 61)) fun e w' => e = .returned (.int .i64 2) ∧ Ext W w' :=
    fun W b1 b2 => first_nil W [tqV b1 b2, .func (.func 39) #[.pointer none] #[]] 3 rfl (by show 2 ≤ 4; decide)
  have HFN := Lib.hid hfn
  clear hfn
  go_enter Tryd.func22, Tryd.ntmps22
  go_upto_region 2 with (first
    | (go_at_call 34; (with_reducible refine (HTH.out _).mono ?_); rintro e w2 ⟨b1, b2, rfl, hx⟩; have HX := Lib.hid hx; clear hx)
    | (go_at_call 33; (refine (HFN.out _ _ _).mono ?_); rintro e w3 ⟨rfl, hx⟩; have HX3 := Lib.hid (HX.out.trans hx); clear hx))
  clear hmf
  go_wp2_with fail
  exact bodyPost_ret (v := .int .i64 2) (by simp [results, Tryd.results22, go_sem]) rfl ⟨rfl, HX3.out⟩

set_option maxRecDepth 100000 in
set_option maxHeartbeats 8000000 in
theorem loose_nil (w : World) (n : List UInt8) : Calls Tryd.prog 11 #[.pointer none, .string (strOf n)] w fun e w' => e = .returned (.int .i64 0) ∧ Ext w w' := by
  have hmf : ∀ (fn : Fn) (first cap : Array Value) (w : World), (Instr.makeFunc fn first cap).run Tryd.prog w = .ok (.func fn first cap) w := fun _ _ _ _ => rfl
  have hth : ∀ W, Calls Tryd.prog 34 #[.pointer none, .string (strOf n)] W fun e w' => ∃ b1 b2, e = .returned (tqV b1 b2) ∧ Ext W w' := fun W => by
    refine (there_any W none (strOf n)).mono ?_
    rintro e w' ⟨rfl, rfl⟩
    exact ⟨_, _, rfl, (boxes2 W _ _).1⟩
  have HTH := Lib.hid hth
  clear hth
  have hfn : ∀ (W : World) (b1 : Nat) (b2 : Nat), Calls Tryd.prog 33 #[.slice (some ⟨W.heap.size, 0, none⟩) 2 2] (W.alloc (.cells #[.func (.func 30) #[.pointer none] #[], tqV b1 b2] 61)) fun e w' => e = .returned (.int .i64 2) ∧ Ext W w' :=
    fun W b1 b2 => first_nil W [tqV b1 b2] 2 rfl (by show 1 ≤ 4; decide)
  have HFN := Lib.hid hfn
  clear hfn
  go_enter Tryd.func11, Tryd.ntmps11
  go_wp2_with (first
    | (go_at_call 34; (with_reducible refine (HTH.out _).mono ?_); rintro e w2 ⟨b1, b2, rfl, hx⟩; have HX := Lib.hid hx; clear hx)
    | (go_at_call 33; (refine (HFN.out _ _ _).mono ?_); rintro e w3 ⟨rfl, hx⟩; have HX3 := Lib.hid (HX.out.trans hx); clear hx))
  exact bodyPost_ret (v := .int .i64 0) (by simp [results, Tryd.results11, go_sem]) rfl ⟨rfl, HX3.out⟩

set_option maxRecDepth 100000 in
set_option maxHeartbeats 8000000 in
theorem read_nil (w : World) (n : List UInt8) : Calls Tryd.prog 10 #[.pointer none, .string (strOf n)] w fun e w' => e = .returned (.tuple #[.slice none 0 0, .int .i64 2]) ∧ Ext w w' := by
  have hmf : ∀ (fn : Fn) (first cap : Array Value) (w : World), (Instr.makeFunc fn first cap).run Tryd.prog w = .ok (.func fn first cap) w := fun _ _ _ _ => rfl
  have hth : ∀ W, Calls Tryd.prog 34 #[.pointer none, .string (strOf n)] W fun e w' => ∃ b1 b2, e = .returned (tqV b1 b2) ∧ Ext W w' := fun W => by
    refine (there_any W none (strOf n)).mono ?_
    rintro e w' ⟨rfl, rfl⟩
    exact ⟨_, _, rfl, (boxes2 W _ _).1⟩
  have HTH := Lib.hid hth
  clear hth
  have hfn : ∀ (W : World) (b1 : Nat) (b2 : Nat), Calls Tryd.prog 33 #[.slice (some ⟨W.heap.size, 0, none⟩) 2 2] (W.alloc (.cells #[.func (.func 30) #[.pointer none] #[], tqV b1 b2] 61)) fun e w' => e = .returned (.int .i64 2) ∧ Ext W w' :=
    fun W b1 b2 => first_nil W [tqV b1 b2] 2 rfl (by show 1 ≤ 4; decide)
  have HFN := Lib.hid hfn
  clear hfn
  go_enter Tryd.func10, Tryd.ntmps10
  go_wp2_with (first
    | (go_at_call 34; (with_reducible refine (HTH.out _).mono ?_); rintro e w2 ⟨b1, b2, rfl, hx⟩; have HX := Lib.hid hx; clear hx)
    | (go_at_call 33; (refine (HFN.out _ _ _).mono ?_); rintro e w3 ⟨rfl, hx⟩; have HX3 := Lib.hid (HX.out.trans hx); clear hx))
  exact bodyPost_ret (v := .tuple #[.slice none 0 0, .int .i64 2]) (by simp [results, Tryd.results10, go_sem]) rfl ⟨rfl, HX3.out⟩

set_option maxRecDepth 100000 in
set_option maxHeartbeats 8000000 in
theorem fuse_nil (w : World) (n : Int) : Calls Tryd.prog 16 #[.pointer none, .int .i64 n] w fun e w' => e = .returned (.int .i64 2) ∧ Ext w w' := by
  have hmf : ∀ (fn : Fn) (first cap : Array Value) (w : World), (Instr.makeFunc fn first cap).run Tryd.prog w = .ok (.func fn first cap) w := fun _ _ _ _ => rfl
  have hwr : ∀ (i : Bool) (W : World), Calls Tryd.prog 36 #[.bool i, .int .i64 1] W fun e w' => ∃ b1 b2, e = .returned (wqV b1 b2) ∧ Ext W w' := fun i W => by
    refine (wrong_fact W i 1).mono ?_
    rintro e w' ⟨c1, c2, rfl, _, _, hx⟩
    exact ⟨c1, c2, rfl, hx⟩
  have HWR := Lib.hid hwr
  clear hwr
  have hfn : ∀ (W : World) (b1 : Nat) (b2 : Nat), Calls Tryd.prog 33 #[.slice (some ⟨W.heap.size, 0, none⟩) 2 2] (W.alloc (.cells #[.func (.func 30) #[.pointer none] #[], wqV b1 b2] 61)) fun e w' => e = .returned (.int .i64 2) ∧ Ext W w' :=
    fun W b1 b2 => first_nil W [wqV b1 b2] 2 rfl (by show 1 ≤ 4; decide)
  have HFN := Lib.hid hfn
  clear hfn
  go_enter Tryd.func16, Tryd.ntmps16
  go_upto_region 2 with (first
    | (go_at_call 36; (with_reducible refine (HWR.out _ _).mono ?_); rintro e w4 ⟨c1, c2, rfl, hx⟩; have HX4 := Lib.hid hx; clear hx)
    | (go_at_call 33; (refine (HFN.out _ _ _).mono ?_); rintro e w3 ⟨rfl, hx⟩; have HX3 := Lib.hid (HX4.out.trans hx); clear hx))
  clear hmf
  go_wp2_with fail
  exact bodyPost_ret (v := .int .i64 2) (by simp [results, Tryd.results16, go_sem]) rfl ⟨rfl, HX3.out⟩

set_option maxRecDepth 100000 in
set_option maxHeartbeats 8000000 in
theorem rename_nil (w : World) (n m : List UInt8) : Calls Tryd.prog 20 #[.pointer none, .string (strOf n), .string (strOf m)] w fun e w' => e = .returned (.int .i64 2) ∧ Ext w w' := by
  have hmf : ∀ (fn : Fn) (first cap : Array Value) (w : World), (Instr.makeFunc fn first cap).run Tryd.prog w = .ok (.func fn first cap) w := fun _ _ _ _ => rfl
  have hth : ∀ W, Calls Tryd.prog 34 #[.pointer none, .string (strOf n)] W fun e w' => ∃ b1 b2, e = .returned (tqV b1 b2) ∧ Ext W w' := fun W => by
    refine (there_any W none (strOf n)).mono ?_
    rintro e w' ⟨rfl, rfl⟩
    exact ⟨_, _, rfl, (boxes2 W _ _).1⟩
  have HTH := Lib.hid hth
  clear hth
  have hwr : ∀ (i : Bool) (W : World), Calls Tryd.prog 36 #[.bool i, .int .i64 1] W fun e w' => ∃ b1 b2, e = .returned (wqV b1 b2) ∧ Ext W w' := fun i W => by
    refine (wrong_fact W i 1).mono ?_
    rintro e w' ⟨c1, c2, rfl, _, _, hx⟩
    exact ⟨c1, c2, rfl, hx⟩
  have HWR := Lib.hid hwr
  clear hwr
  have hfn : ∀ (W : World) (b1 : Nat) (b2 : Nat) (b3 : Nat) (b4 : Nat), Calls Tryd.prog 33 #[.slice (some ⟨W.heap.size, 0, none⟩) 4 4] (W.alloc (.cells #[.func (.func 30) #[.pointer none] #[], wqV b1 b2, tqV b3 b4, .func (.func 39) #[.pointer none] #[]] 61)) fun e w' => e = .returned (.int .i64 2) ∧ Ext W w' :=
    fun W b1 b2 b3 b4 => first_nil W [wqV b1 b2, tqV b3 b4, .func (.func 39) #[.pointer none] #[]] 4 rfl (by show 3 ≤ 4; decide)
  have HFN := Lib.hid hfn
  clear hfn
  go_enter Tryd.func20, Tryd.ntmps20
  go_upto_region 2 with (first
    | (go_at_call 28; (with_reducible refine (may_any _ m).mono ?_); rintro e w5 ⟨rfl, hx⟩; have HX5 := Lib.hid hx; clear hx)
    | (go_at_call 36; (with_reducible refine (HWR.out _ _).mono ?_); rintro e w4 ⟨c1, c2, rfl, hx⟩; have HX4 := Lib.hid (HX5.out.trans hx); clear hx)
    | (go_at_call 34; (with_reducible refine (HTH.out _).mono ?_); rintro e w2 ⟨b1, b2, rfl, hx⟩; have HX := Lib.hid (HX4.out.trans hx); clear hx)
    | (go_at_call 33; (refine (HFN.out _ _ _ _ _).mono ?_); rintro e w3 ⟨rfl, hx⟩; have HX3 := Lib.hid (HX.out.trans hx); clear hx))
  clear hmf
  go_wp2_with fail
  exact bodyPost_ret (v := .int .i64 2) (by simp [results, Tryd.results20, go_sem]) rfl ⟨rfl, HX3.out⟩

set_option maxRecDepth 100000 in
set_option maxHeartbeats 8000000 in
theorem crash_nil (w : World) (v u : Value) : Calls Tryd.prog 12 #[.pointer none, v, u] w fun e w' => e = .returned (.int .i64 2) ∧ Ext w w' := by
  go_enter Tryd.func12, Tryd.ntmps12
  go_wp2_with (go_at_call 30; (with_reducible refine (answers_nil _).mono ?_); rintro e w2 ⟨rfl, rfl⟩)
  exact bodyPost_ret (v := .int .i64 2) (by simp [results, Tryd.results12, go_sem]) rfl ⟨rfl, Ext.refl _⟩

set_option maxRecDepth 100000 in
set_option maxHeartbeats 8000000 in
theorem names_nil (w : World) : Calls Tryd.prog 9 #[.pointer none] w fun e w' => e = .returned (.slice none 0 0) ∧ Ext w w' := by
  go_enter Tryd.func9, Tryd.ntmps9
  go_wp2_with (go_at_call 30; (with_reducible refine (answers_nil _).mono ?_); rintro e w2 ⟨rfl, rfl⟩)
  exact bodyPost_ret (v := .slice none 0 0) (by simp [results, Tryd.results9, go_sem]) rfl ⟨rfl, Ext.refl _⟩

end Go.Proofs.YtdfnfmanpdafpaaDoor
