/- What the rows of values and of constraints are, by the type table. -/
import Derived.Test.YtkefppdacigbmaaL1
import Derived.Test.YtkefppdacigbmaaProg
import Derived.KernelRfl
namespace Go.Proofs.Ytkefppdacigbmaa
open Go.RowKit

theorem vC_one (l : List V) : ∀ u ∈ l.flatMap vC, u.oneCell' = true := by
  intro u hu
  obtain ⟨x, _, hx⟩ := List.mem_flatMap.1 hu
  simp only [vC, List.mem_cons, List.not_mem_nil, or_false] at hx
  rcases hx with rfl | rfl | rfl | rfl <;> rfl
theorem csC_one (l : List CS) (h : ∀ x ∈ l, x.h.oneCell' = true) : ∀ u ∈ l.flatMap csC, u.oneCell' = true := by
  intro u hu
  obtain ⟨x, hm, hx⟩ := List.mem_flatMap.1 hu
  simp only [csC, List.mem_cons, List.not_mem_nil, or_false] at hx
  rcases hx with rfl | rfl | rfl | rfl | rfl | rfl | rfl
  all_goals first | rfl | exact h x hm

theorem info28t : (Try.prog.info? 28).map (fun i => (i.zero, i.size, i.bytes)) = some (some (.agg #[.int .i64 0, .int .i64 0, .string ⟨#[]⟩, .bool false]), 4, 40) := by kernel_rfl
theorem info31t : (Try.prog.info? 31).map (fun i => (i.zero, i.size, i.bytes)) = some (some (.agg #[.string ⟨#[]⟩, .int .i64 0, .int .i64 0, .int .i64 0, .string ⟨#[]⟩, .bool false, .slice none 0 0]), 7, 88) := by kernel_rfl

theorem size28 : (Try.prog.info? 28).map (·.size) = some 4 := by kernel_rfl
theorem zero28 : ∀ w, (zeroValue 28).run Try.prog w = .ok (.agg #[.int .i64 0, .int .i64 0, .string ⟨#[]⟩, .bool false]) w := fun _ => by kernel_rfl
theorem zero31 : ∀ w, (zeroValue 31).run Try.prog w = .ok (.agg #[.string ⟨#[]⟩, .int .i64 0, .int .i64 0, .int .i64 0, .string ⟨#[]⟩, .bool false, .slice none 0 0]) w := fun _ => by kernel_rfl
theorem size31 : (Try.prog.info? 31).map (·.size) = some 7 := by kernel_rfl
end Go.Proofs.Ytkefppdacigbmaa
