/- Disk: wrong, there: questions made; wrong's question asked. -/
import Derived.Test.YtdfnfmanpdafpaaDoorD2
namespace Go.Proofs.YtdfnfmanpdafpaaDoor
open Go.RowKit
abbrev wqV (b1 b2 : Nat) : Value := .func (.func 47) #[] #[.pointer (some ⟨b1, 0, none⟩), .pointer (some ⟨b2, 0, none⟩)]
abbrev tqV (b1 b2 : Nat) : Value := .func (.func 46) #[] #[.pointer (some ⟨b1, 0, none⟩), .pointer (some ⟨b2, 0, none⟩)]
set_option maxRecDepth 100000 in
set_option maxHeartbeats 4000000 in
theorem wrong_any (w : World) (i : Bool) (c : Int) :
    Calls Tryd.prog 36 #[.bool i, .int .i64 c] w fun e w' => e = .returned (wqV w.heap.size (w.heap.size + 1)) ∧ w' = (w.alloc (.cells #[.bool i] 4)).alloc (.cells #[.int .i64 c] 26) := by
  have hmf : ∀ (fn : Fn) (first cap : Array Value) (w : World), (Instr.makeFunc fn first cap).run Tryd.prog w = .ok (.func fn first cap) w := fun _ _ _ _ => rfl
  go_enter Tryd.func36, Tryd.ntmps36
  go_wp2_with fail
  go_ret
  refine ⟨?_, rfl⟩
  simp
set_option maxRecDepth 100000 in
set_option maxHeartbeats 4000000 in
theorem wrongq_any (w : World) (b1 b2 : Nat) (i : Bool) (c : Int) (h1 : w.heap[b1]? = some (.cells #[.bool i] 4)) (h2 : w.heap[b2]? = some (.cells #[.int .i64 c] 26)) :
    Calls Tryd.prog 47 #[.pointer (some ⟨b1, 0, none⟩), .pointer (some ⟨b2, 0, none⟩)] w fun e w' => e = .returned (.int .i64 (if i then c else 0)) ∧ w' = w := by
  have m0 := cell_of_row _ _ 0 _ _ _ h1
  have m1 := cell_of_row _ _ 0 _ _ _ h2
  clear h1 h2
  cases i
  · go_enter Tryd.func47, Tryd.ntmps47
    go_wp2_with fail
    go_ret
    exact ⟨rfl, rfl⟩
  · go_enter Tryd.func47, Tryd.ntmps47
    go_wp2_with fail
    go_ret
    exact ⟨rfl, rfl⟩
set_option maxRecDepth 100000 in
set_option maxHeartbeats 4000000 in
theorem there_any (w : World) (d : Option Addr) (name : ByteArray) :
    Calls Tryd.prog 34 #[.pointer d, .string name] w fun e w' => e = .returned (tqV (w.heap.size + 1) w.heap.size) ∧ w' = (w.alloc (.cells #[.pointer d] 25)).alloc (.cells #[.string name] 9) := by
  have hmf : ∀ (fn : Fn) (first cap : Array Value) (w : World), (Instr.makeFunc fn first cap).run Tryd.prog w = .ok (.func fn first cap) w := fun _ _ _ _ => rfl
  go_enter Tryd.func34, Tryd.ntmps34
  go_wp2_with fail
  go_ret
  refine ⟨?_, rfl⟩
  simp
end Go.Proofs.YtdfnfmanpdafpaaDoor
