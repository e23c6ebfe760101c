/- Items where they lie. (Of any program.) -/
import Derived.Test.YtlgopjfnknjgjaaL1
namespace Go.Proofs.Ytlgopjfnknjgjaa
open Go.RowKit

/-- An item where it stands: its number, its time, its key, its attributes' slice. -/
structure IT where
  n : Nat
  t : Nat
  key : List UInt8
  h : Value
def iC (x : IT) : List Value := [.int .u64 x.n, .int .u64 x.t, .string (strOf x.key), x.h]
theorem iC_len (x : IT) : (iC x).length = 4 := rfl
structure ItemR (W : World) (v : Value) (l : List IT) : Prop where
  row : Row W 4 v l.length (l.flatMap iC)
  hs : ∀ x ∈ l, ∃ a n c, x.h = .slice a n c
theorem ItemR.ext {W W' : World} {v : Value} {l : List IT} (h : ItemR W v l) (hx : Ext W W') : ItemR W' v l := ⟨h.row.ext hx, h.hs⟩
theorem ItemR.nil (W : World) : ItemR W (.slice none 0 0) [] := ⟨Row.nil W 4, fun _ h => by cases h⟩
theorem ItemR.shape {W : World} {v : Value} {l : List IT} (h : ItemR W v l) : ∃ a cap, v = .slice a l.length cap ∧ l.length ≤ cap ∧ cap ≤ maxLen := Row.shape h.row
theorem ItemR.at {W : World} {a : Option Addr} {n cap : Nat} {l : List IT} (h : ItemR W (.slice a n cap) l) {k : Nat} (hk : k < l.length) :
    ∃ B o, a = some ⟨B, o, none⟩ ∧ W.cell? ⟨B, o + k * 4, none⟩ = some (.int .u64 l[k].n) ∧ W.cell? ⟨B, o + k * 4 + 1, none⟩ = some (.int .u64 l[k].t) ∧ W.cell? ⟨B, o + k * 4 + 2, none⟩ = some (.string (strOf l[k].key)) ∧ W.cell? ⟨B, o + k * 4 + 3, none⟩ = some l[k].h := by
  obtain ⟨B, o, rfl⟩ := Row.base h.row (by omega) (by decide)
  have g := fun j hj => flat_get iC 4 iC_len l k hk j hj
  exact ⟨B, o, rfl, Row.cellAt h.row (g 0 (by decide)) (by omega), Row.cellAt h.row (g 1 (by decide)) (by omega), Row.cellAt h.row (g 2 (by decide)) (by omega), Row.cellAt h.row (g 3 (by decide)) (by omega)⟩
theorem ItemR.one {l : List IT} (h : ∀ x ∈ l, ∃ a n c, x.h = .slice a n c) : ∀ u ∈ l.flatMap iC, u.oneCell' = true := by
  intro u hu
  obtain ⟨x, hx, hu⟩ := List.mem_flatMap.1 hu
  obtain ⟨a, n, c, e⟩ := h x hx
  simp only [iC, List.mem_cons, List.not_mem_nil, or_false] at hu
  rcases hu with rfl | rfl | rfl | rfl
  · rfl
  · rfl
  · rfl
  · rw [e]; rfl
def nkOf (x : IT) : Nat × List UInt8 := (x.n, x.key)
end Go.Proofs.Ytlgopjfnknjgjaa
