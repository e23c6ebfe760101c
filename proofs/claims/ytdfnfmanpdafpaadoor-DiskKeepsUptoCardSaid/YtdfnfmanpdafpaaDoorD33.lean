/- Disk: opening bytes whose bulk is bounded. (Lines turned from this repo's g3/R3.) -/
import Derived.Test.YtdfnfmanpdafpaaDoorD26
import Derived.Test.YtdfnfmanpdafpaaDoorBulk
namespace Go.Proofs.YtdfnfmanpdafpaaDoor
open Go.ChangeShapes Go.WideShapes Go.RowKit Go.Deep

set_option maxRecDepth 100000 in
theorem arg_bytesU {H : Type} {enc : TypeId × Value → H} {W : World} {base : Nat} {v : Value} {d : DataW H} {p : List MemPlace} (h : DataW.Trod enc Tryd.prog W 0 (fun _ => true) true 24 v d p) (hv : Value.okWide Tryd.prog W .any base 24 v) :
    ∃ l : List UInt8, Bytes W v l ∧ l.length ≤ Rows.uptoBulk d := by
  obtain ⟨a, n, c, rfl⟩ := okWide_slice Tryd.underlying24 hv
  obtain ⟨fuel, hf⟩ := h
  rcases open_ints Tryd.underlying24 Tryd.underlying5 (by kernel_rfl) hf with ⟨e, _⟩ | ⟨a', l, c', zs, e, _, hl, hm, hz, hx, hcell, hwz⟩
  · obtain ⟨e1, -⟩ := List.cons.inj (show [Value.slice a n c] = [.slice none 0 0] from e)
    rw [e1]
    exact ⟨[], Bytes.nil _, Nat.zero_le _⟩
  · obtain ⟨e1, -⟩ := List.cons.inj e
    rw [e1]
    have hd : d = _ := congrArg Prod.fst hx
    rw [hd]
    have hs := bulks.slice_le (H := H) (lits .u8 (zs.take l)) (lits .u8 (zs.drop l))
    simp only [if_true] at hz
    simp only [lits, List.length_map, List.length_take, List.length_drop] at hs
    refine ⟨_, bytes_of_ints hl hm hz hcell hwz, ?_⟩
    simp only [List.length_map, List.length_take, lits]
    omega
end Go.Proofs.YtdfnfmanpdafpaaDoor
