/- Disk: no disk at all: every call answers so. -/
import Derived.Test.YtdfnfmanpdafpaaDoorD27
namespace Go.Proofs.YtdfnfmanpdafpaaDoor
open Go.RowKit

def ansNil : Value := .func (.func 30) #[.pointer none] #[]
/-- first stops at its first question. -/
theorem first_nil (w : World) (vs : List Value) (n : Nat) (hn : n = vs.length + 1) (hl : vs.length ≤ 4) :
    Calls Tryd.prog 33 #[.slice (some ⟨w.heap.size, 0, none⟩) n n] (w.alloc (.cells (ansNil :: vs).toArray 61)) fun e w' => e = .returned (.int .i64 2) ∧ Ext w w' := by
  subst hn
  have hx : Ext w (w.alloc (.cells (ansNil :: vs).toArray 61)) := (Ext.refl w).alloc _
  have h := firstq_any (w.alloc (.cells (ansNil :: vs).toArray 61)) w.heap.size (ansNil :: vs) (fun c w' => c = 2 ∧ Ext w w') (heap_alloc_new w _) (by rw [List.length_cons]; omega) ⟨30, _, _, rfl, enter30, (answers_nil _).mono fun e w' h => ⟨2, h.1, by rw [h.2], .inr ⟨by decide, rfl, by rw [h.2]; exact hx⟩⟩⟩
  rw [List.length_cons] at h
  refine h.mono ?_
  rintro e w' ⟨c, rfl, rfl, hx⟩
  exact ⟨rfl, hx⟩
set_option maxRecDepth 100000 in
set_option maxHeartbeats 8000000 in
theorem off_nil (w : World) : Calls Tryd.prog 18 #[.pointer none] w fun e w' => e = .returned (.bool false) ∧ Ext w w' := by
  go_enter Tryd.func18, Tryd.ntmps18
  go_wp2_with (go_at_call 30; (with_reducible refine (answers_nil _).mono ?_); rintro e w2 ⟨rfl, rfl⟩)
  go_ret
  exact ⟨rfl, Ext.refl _⟩
set_option maxRecDepth 100000 in
set_option maxHeartbeats 8000000 in
theorem quota_nil (w : World) (n : Int) : Calls Tryd.prog 23 #[.pointer none, .int .i64 n] w fun e w' => e = .returned (.int .i64 2) ∧ Ext w w' := by
  go_enter Tryd.func23, Tryd.ntmps23
  go_wp2_with (go_at_call 30; (with_reducible refine (answers_nil _).mono ?_); rintro e w2 ⟨rfl, rfl⟩)
  exact bodyPost_ret (v := .int .i64 2) (by simp [results, Tryd.results23, go_sem]) rfl ⟨rfl, Ext.refl _⟩
set_option maxRecDepth 100000 in
set_option maxHeartbeats 8000000 in
theorem sync_nil (w : World) (n : List UInt8) : Calls Tryd.prog 25 #[.pointer none, .string (strOf n)] w fun e w' => e = .returned (.int .i64 2) ∧ Ext w w' := by
  have hmf : ∀ (fn : Fn) (first cap : Array Value) (w : World), (Instr.makeFunc fn first cap).run Tryd.prog w = .ok (.func fn first cap) w := fun _ _ _ _ => rfl
  have hth : ∀ W, Calls Tryd.prog 34 #[.pointer none, .string (strOf n)] W fun e w' => ∃ b1 b2, e = .returned (tqV b1 b2) ∧ Ext W w' := fun W => by
    refine (there_any W none (strOf n)).mono ?_
    rintro e w' ⟨rfl, rfl⟩
    exact ⟨_, _, rfl, (boxes2 W _ _).1⟩
  have hfn : ∀ (W : World) (b1 b2 : Nat), Calls Tryd.prog 33 #[.slice (some ⟨W.heap.size, 0, none⟩) 3 3] (W.alloc (.cells #[.func (.func 30) #[.pointer none] #[], tqV b1 b2, .func (.func 39) #[.pointer none] #[]] 61)) fun e w' => e = .returned (.int .i64 2) ∧ Ext W w' :=
    fun W b1 b2 => first_nil W [tqV b1 b2, .func (.func 39) #[.pointer none] #[]] 3 rfl (by show 2 ≤ 4; decide)
  have HTH := Lib.hid hth
  have HFN := Lib.hid hfn
  clear hth hfn
  go_enter Tryd.func25, Tryd.ntmps25
  go_upto_region 2 with (first
    | (go_at_call 34; (with_reducible refine (HTH.out _).mono ?_); rintro e w2 ⟨b1, b2, rfl, hx⟩; have HX := Lib.hid hx; clear hx)
    | (go_at_call 33; (refine (HFN.out _ _ _).mono ?_); rintro e w3 ⟨rfl, hx⟩; have HX3 := Lib.hid (HX.out.trans hx); clear hx))
  clear hmf
  go_wp2_with fail
  exact bodyPost_ret (v := .int .i64 2) (by simp [results, Tryd.results25, go_sem]) rfl ⟨rfl, HX3.out⟩
end Go.Proofs.YtdfnfmanpdafpaaDoor
