/- A row of the call's own that turned in a region, and where it lies now. (Of any program.) -/
import Derived.Test.YtdfnfmanpdafpaaDoorK13
import Derived.Test.YtdfnfmanpdafpaaDoorY1
namespace Go.Proofs.YtdfnfmanpdafpaaDoor.Rr
open Go.RowKit

/-- A row of the call's own that lies where it lay (ob), or in memory made from block H on. -/
def FactB.ownL (base : Nat) (e : TypeId) (size n : Nat) (xs : List Value) (ob : Option Nat) (H : Nat) : FactB :=
  ⟨fun v w => w.ownsRow base e size v n xs ∧ (v.ownBlock = ob ∨ ∃ g, v.ownBlock = some g ∧ H ≤ g), fun row => row ≠ none, fun row hb v w w' hg h => ⟨own_keep h.1 hg fun k _ e => hb (by rw [e]; simp), h.2⟩⟩
theorem ownL_none {base : Nat} {e : TypeId} {size n : Nat} {xs : List Value} {ob : Option Nat} {H : Nat} : ¬ (FactB.ownL base e size n xs ob H).bad none := fun h => h rfl
theorem Buts.grown {rows : List (Option Nat)} {w w' : World} {row : Option Nat} (h : Buts rows w w') (hr : ∀ k, some k ∈ rows → row = some k) : w.grownBy w' row :=
  ⟨h.os, h.tape, h.output, h.size, fun k hk hne => h.block k hk fun hm => hne (hr k hm).symm⟩
end Go.Proofs.YtdfnfmanpdafpaaDoor.Rr
