/- SegmentNames, walked: whatever it is handed it answers true and writes nothing that was there. -/
import Derived.Test.YtkaepcjkpaplfaaDoorN12
import Derived.Test.YtkaepcjkpaplfaaDoorN10
import Derived.Test.YtkaepcjkpaplfaaDoorN11
namespace Go.Proofs.YtkaepcjkpaplfaaDoor
open Go.RowKit

set_option maxRecDepth 100000 in
set_option maxHeartbeats 4000000 in
theorem segmentNames_any (w : World) (p : Int) (n : Nat) (s : List UInt8) (hp1 : -9223372036854775808 ≤ p) (hp2 : p ≤ 9223372036854775807) (hn : n < 18446744073709551616) (hs : s.length ≤ 9223372036854775807) :
    Calls Tryd.prog 3 #[.int .i64 p, .int .u64 n, .string (strOf s)] w fun e w' => e = .returned (.bool true) ∧ Ext w w' := by
  go_enter Tryd.func3, Tryd.ntmps3
  go_wp2_with fail
  refine (name_any _ p n hp1 hp2 hn).mono ?_
  rintro e w1 ⟨rfl, hx1⟩
  go_wp2_with fail
  refine (rname_any _ p n hp1 hp2 hn).mono ?_
  rintro e w2 ⟨rfl, hx2⟩
  replace hx2 := hx1.trans hx2
  generalize (nameF p n).1 = N at *
  generalize (nameF p n).2 = M at *
  go_wp2_with fail
  refine (parse_any _ s hs).mono ?_
  rintro e w3 ⟨rfl, hx3⟩
  replace hx3 := hx2.trans hx3
  go_wp2_with fail
  refine (rparse_any _ s hs).mono ?_
  rintro e w4 ⟨rfl, hx4⟩
  replace hx4 := hx3.trans hx4
  generalize (parseF s).1 = P1 at *
  generalize (parseF s).2.1 = P2 at *
  generalize (parseF s).2.2 = P3 at *
  clear hx1 hx2 hx3
  go_wp2_with fail
  refine (awake_any _).mono ?_
  rintro e w5 ⟨rfl, hx5⟩
  have hb := beq_l N
  go_wp2_with fail
  go_ret
  exact ⟨rfl, hx4.trans hx5⟩

end Go.Proofs.YtkaepcjkpaplfaaDoor
