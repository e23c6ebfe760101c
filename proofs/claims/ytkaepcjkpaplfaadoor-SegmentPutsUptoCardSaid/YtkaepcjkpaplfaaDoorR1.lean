/- What the rows' proofs share: an argument of bytes, read. -/
import Derived.Test.YtkaepcjkpaplfaaDoorW2
import Derived.ProofKit
import Derived.OpenShut
import Derived.ChangeOld
import Derived.SizedLaws
namespace Go.Proofs.YtkaepcjkpaplfaaDoor
open Go.RowKit

theorem own : ownKnob Tryd.prog.godebug = none := by kernel_rfl
theorem laidOut : laidOutB Tryd.prog = true := by kernel_rfl
theorem bytes5 : Tryd.prog.bytesOf 5 = 1 := by kernel_rfl

theorem u8_back {n : Int} (h : (Lit.int .u8 n).wf = true) : (((UInt8.ofNat n.toNat).toNat : Nat) : Int) = n := by
  have := bounds_u8 h
  rw [UInt8.toNat_ofNat']; omega

theorem u32_nat {a : Int} (h : (Lit.int .u32 a).wf = true) : ∃ n : Nat, a = (n : Int) ∧ n < 4294967296 := by
  have := bounds_u32 h
  exact ⟨a.toNat, by omega, by omega⟩
theorem u64_nat {a : Int} (h : (Lit.int .u64 a).wf = true) : ∃ n : Nat, a = (n : Int) ∧ n < 18446744073709551616 := by
  have := bounds_u64 h
  exact ⟨a.toNat, by omega, by omega⟩
theorem u16_nat {a : Int} (h : (Lit.int .u16 a).wf = true) : ∃ n : Nat, a = (n : Int) ∧ n < 65536 := by
  have := bounds_u16 h
  exact ⟨a.toNat, by omega, by omega⟩
theorem u8_nat {a : Int} (h : (Lit.int .u8 a).wf = true) : ∃ n : UInt8, a = (n.toNat : Int) := ⟨UInt8.ofNat a.toNat, (u8_back h).symm⟩

theorem bytes_of_ints {W : World} {x : Addr} {len cap : Nat} {zs : List Int} (hl : len ≤ cap) (hm : cap ≤ maxLen) (hz : zs.length = cap)
    (hcell : ∀ i, i < zs.length → W.cell? (x.add i) = some (.int .u8 (zs.getD i 0))) (hwz : ∀ n ∈ zs, (Lit.int .u8 n).wf = true) :
    Bytes W (.slice (some x) len cap) ((zs.take len).map fun n => UInt8.ofNat n.toNat) := by
  have hlen : ((zs.take len).map fun n => UInt8.ofNat n.toNat).length = len := by simp; omega
  have hspot : 0 < cap → x.spot = none := fun h => by
    have := hcell 0 (by omega)
    simpa [Addr.add] using World.cell?_spot this
  unfold Bytes
  rw [hlen]
  refine ⟨by simp; omega, some x, cap, rfl, hl, hm, by simp, fun p hp h0 => by simp at hp; subst hp; exact hspot h0, fun j u hj => ⟨x, rfl, ?_⟩⟩
  rw [List.map_map, List.getElem?_map, List.getElem?_take] at hj
  split at hj
  · rename_i hjl
    have hjz : j < zs.length := by omega
    rw [List.getElem?_eq_getElem hjz] at hj
    simp only [Option.map_some, Option.some.injEq, Function.comp] at hj
    have hps := hspot (by omega)
    have hadd : x.add j = ⟨x.block, x.off + j, none⟩ := by
      obtain ⟨xb, xo, xs⟩ := x
      simp only at hps; subst hps
      unfold Addr.add; split <;> simp_all
    rw [← hadd, hcell j hjz, ← hj, u8_back (hwz _ (List.getElem_mem hjz))]
    simp [List.getD, List.getElem?_eq_getElem hjz]
  · cases hj

end Go.Proofs.YtkaepcjkpaplfaaDoor
