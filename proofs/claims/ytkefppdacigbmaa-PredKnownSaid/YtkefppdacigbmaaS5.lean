/- slices.SortFunc at constraints, walked. -/
import Derived.Test.YtkefppdacigbmaaS4
namespace Go.Proofs.Ytkefppdacigbmaa
open Go.RowKit Go.Sort

set_option maxRecDepth 100000 in
set_option maxHeartbeats 2000000 in
theorem sortC_any (w : World) (base g cap : Nat) (us : List CS) (ho : w.ownsRow base 31 7 (.slice (some ⟨g, 0, none⟩) us.length cap) us.length (us.flatMap csC)) (hl : us.length ≤ 12) (h0 : us ≠ [])
    (hs : ∀ x ∈ us, SetR w x.h x.c.set ∧ x.h.ownBlock ≠ some g) :
    Calls Try.prog 117 #[.slice (some ⟨g, 0, none⟩) us.length cap, .func (.func 65) #[] #[]] w
      fun e w' => e = .returned (.tuple #[]) ∧ ∃ us' : List CS, us'.Perm us ∧ (us'.Pairwise fun a b => orderC a.c b.c ≤ 0) ∧ w'.ownsRow base 31 7 (.slice (some ⟨g, 0, none⟩) us.length cap) us.length (us'.flatMap csC) ∧ w.grownBy w' (some g) := by
  have hc := fun lim => pdqC_any w base g cap us ho hl h0 hs lim
  have hbl := bits115_any us.length (by omega) w
  have wr : IntKind.u64.wrap (us.length : Int) = us.length := by simp [IntKind.wrap, IntKind.bits, IntKind.signed]; omega
  have HC := Lib.hid hc
  clear hc ho hs h0
  generalize us.length = n at *
  go_enter Try.func117, Try.ntmps117
  go_wp2_with (first | (go_at_call 115; refine hbl.mono ?_; rintro e w' ⟨rfl, rfl⟩) | (go_at_call 152; refine (HC.out _).mono ?_; rintro e w' ⟨rfl, us', q1, q2, q3, q4⟩))
  go_end0
  exact ⟨rfl, us', q1, q2, q3, q4⟩
end Go.Proofs.Ytkefppdacigbmaa
