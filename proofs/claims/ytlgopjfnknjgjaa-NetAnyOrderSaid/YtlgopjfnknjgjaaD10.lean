/- keyed (20): items numbered from 1 on. -/
import Derived.Test.YtlgopjfnknjgjaaD9
import Derived.Test.YtlgopjfnknjgjaaU6
import Derived.Test.YtlgopjfnknjgjaaD7
namespace Go.Proofs.Ytlgopjfnknjgjaa
open Go.RowKit Go.MapKept

def stC (s : List UInt8) : Value := .string (strOf s)
def StR (w : World) (v : Value) (l : List (List UInt8)) : Prop := Row w 1 v l.length (l.map stC)
theorem StR.ext {w w' : World} {v : Value} {l : List (List UInt8)} (h : StR w v l) (hx : Ext w w') : StR w' v l := Row.ext h hx
theorem StR.at {w : World} {a : Option Addr} {n cap : Nat} {l : List (List UInt8)} (h : StR w (.slice a n cap) l) {k : Nat} (hk : k < l.length) : ∃ B o, a = some ⟨B, o, none⟩ ∧ w.cell? ⟨B, o + k, none⟩ = some (.string (strOf l[k])) := by
  obtain ⟨B, o, rfl⟩ := Row.base h (by omega) (by decide)
  exact ⟨B, o, rfl, Row.cellAt h (by rw [List.getElem?_map, List.getElem?_eq_getElem hk]; rfl) (by omega)⟩
def kIt (n : Nat) (k : List UInt8) : IT := ⟨n, 0, k, .slice none 0 0⟩
def keyedI (ks : List (List UInt8)) : List IT := ks.zipIdx.map fun p => kIt (p.2 + 1) p.1
theorem keyedI_snoc (ks : List (List UInt8)) (x : List UInt8) : keyedI (ks ++ [x]) = keyedI ks ++ [kIt (ks.length + 1) x] := by
  unfold keyedI
  rw [List.zipIdx_append, List.map_append]
  simp
theorem keyedI_len (ks : List (List UInt8)) : (keyedI ks).length = ks.length := by unfold keyedI; simp
theorem iC_kIt (n : Nat) (k : List UInt8) : iC (kIt n k) = [.int .u64 n, .int .u64 0, .string (strOf k), .slice none 0 0] := rfl
theorem keyedI_hs (ks : List (List UInt8)) : ∀ x ∈ keyedI ks, ∃ a n c, x.h = .slice a n c := by
  intro x hx
  obtain ⟨p, _, rfl⟩ := List.mem_map.1 hx
  exact ⟨none, 0, 0, rfl⟩
theorem keyedI_small (ks : List (List UInt8)) : ∀ x ∈ keyedI ks, x.n ≤ ks.length := by
  intro x hx
  obtain ⟨p, hp, rfl⟩ := List.mem_map.1 hx
  have := List.mem_zipIdx hp
  show p.2 + 1 ≤ _
  omega
/-- Items of the call's own. -/
def OwnI (base : Nat) (w : World) (v : Value) (l : List IT) : Prop := w.ownsRow base 33 4 v l.length (l.flatMap iC)
theorem OwnI.item {base : Nat} {w : World} {v : Value} {l : List IT} (h : OwnI base w v l) (hs : ∀ x ∈ l, ∃ a n c, x.h = .slice a n c) : ItemR w v l := ⟨Row.of_own h, hs⟩

set_option maxRecDepth 100000 in
set_option maxHeartbeats 8000000 in
theorem keyed_any (w : World) (vk : Value) (ks : List (List UInt8)) (hk : StR w vk ks) (hlen : ks.length ≤ 1000000) :
    Calls Try.prog 20 #[vk] w fun e w' => ∃ v, e = .returned v ∧ OwnI w.heap.size w' v (keyedI ks) ∧ Ext w w' := by
  obtain ⟨a, cap, rfl, hc, hmx⟩ := Row.shape hk
  unfold maxLen at hmx
  have HI := Lib.hid hk
  clear hk
  generalize hN : ks.length = N at *
  have HN := Lib.hid hN
  clear hN
  go_enter Try.func20, Try.ntmps20
  go_wp2_with fail
  go_loopw [3, 4] (fun v i wr => ∃ k : Nat, k ≤ N ∧ i = .int .i64 k ∧ Hid (OwnI w.heap.size wr v (keyedI (ks.take k))) ∧ Hid (Ext w wr)) (fun _ i _ => N - (intOf i).toNat)
  case atStart => exact ⟨0, Nat.zero_le _, rfl, own_none _ _ _ _, Ext.refl w⟩
  case round =>
    obtain ⟨k, hk, rfl, hown, hxr⟩ := hrel
    by_cases hlt : k < N
    · have hI : decide ((k : Int) < (N : Int)) = true := decide_eq_true (by omega)
      have hkN : (k : Int) < (N : Int) := by omega
      have hkl : k < ks.length := by rw [HN.out]; exact hlt
      obtain ⟨B, o, rfl, f0⟩ := (HI.out.ext hxr.out).at hkl
      obtain ⟨n1, hn1⟩ : ∃ n, n = k + 1 := ⟨_, rfl⟩
      have q1 : (k : Int) + 1 = (n1 : Int) := by omega
      have hst : keyedI (ks.take (k + 1)) = keyedI (ks.take k) ++ [kIt n1 ks[k]] := by
        rw [List.take_succ_eq_append_getElem hkl, keyedI_snoc, List.length_take, Nat.min_eq_left (by omega), hn1]
      have hpl : (keyedI (ks.take k)).length ≤ k := by rw [keyedI_len, List.length_take]; omega
      have hn2 : n1 ≤ 1000001 := by omega
      have HN1 := Lib.hid hn1
      have HST := Lib.hid hst
      clear hst hn1
      generalize ks[k] = x at *
      generalize keyedI (ks.take k) = pr at *
      have hrow := it_row wr n1 0 x none 0 0
      rw [show ((0 : Nat) : Int) = 0 from rfl] at hrow
      have hxa := (boxes1 wr (.cells #[.int .u64 n1, .int .u64 0, .string (strOf x), .slice none 0 0] 33)).1
      have HROW := Lib.hid hrow
      have HO := Lib.hid (own_ext hown.out hxa)
      have HXA := Lib.hid (hxr.out.trans hxa)
      have HBASE := Lib.hid HXA.out.size
      have HONE := Lib.hid (it_one n1 0 x none 0 0)
      clear hrow hxa hown hxr
      have hb1 : (pr.length + 1) * 56 ≤ 140737488355328 := by omega
      have hb2 : pr.length + 1 ≤ maxLen := by unfold maxLen; omega
      go_wp2_with (at_builtin; (refine wpList_append_row 22 33 (.tmp 11) (.tmp 21) rfl w.heap.size _ 4 56 Try.underlying22 info33t rfl (by decide) rfl _ pr.length (pr.flatMap iC) rfl HO.out 1 [.int .u64 n1, .int .u64 0, .string (strOf x), .slice none 0 0] HROW.out HONE.out hb1 hb2 HBASE.out ?_); intro v' w3 hown2 hg; have HO2 := Lib.hid hown2; have HX3 := Lib.hid (HXA.out.grown_none hg (own_base HO.out)); clear hown2 hg)
      go_roundw
      case rel =>
        refine ⟨k + 1, hlt, by rw [HN1.out], ?_, HX3.out⟩
        show World.ownsRow _ _ _ _ _ _ _
        rw [HST.out, List.length_append, List.flatMap_append]
        have := HO2.out
        simpa [iC_kIt] using this
      case measure => have := HN1.out; simp [intOf]; omega
    · obtain rfl : k = N := by omega
      have hI : decide ((k : Int) < (k : Int)) = false := decide_eq_false (by omega)
      have ho := hown.out
      rw [List.take_of_length_le (by rw [HN.out]; exact Nat.le_refl _)] at ho
      have HO := Lib.hid ho
      clear ho hown
      go_wp2_with fail
      go_ret
      exact ⟨_, rfl, HO.out, hxr.out⟩
end Go.Proofs.Ytlgopjfnknjgjaa
