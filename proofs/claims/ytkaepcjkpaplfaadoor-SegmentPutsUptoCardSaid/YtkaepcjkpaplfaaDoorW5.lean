/- Records: the iterator over the records of bytes. -/
import Derived.Test.YtkaepcjkpaplfaaDoorW4
import Derived.RangeFuncNested
import Derived.RangeFuncBound
import Derived.RangeFuncCalls
import Derived.RangeFuncLeaves
import Derived.Shelf.Abstract
import Derived.Shelf.RegionOpen
import Derived.WalkKit
import Derived.OwnWalkIn
import Derived.TacticsInMore
import Derived.LoopNIn
import Derived.LoopIn
namespace Go.Proofs.YtkaepcjkpaplfaaDoor
open Go.RowKit Go.Shelf
attribute [local go_sem] Oper.semAt_some

/-- The iterator's own three boxes lie at B, B + 1, B + 2; q bytes have gone. -/
structure It (w : World) (v : Value) (B q : Nat) (W : World) : Prop where
  ext : Ext w W
  box_ : Boxed W B 34 v
  here : Boxed W (B + 1) 3 (.int .i64 (q : Int))
  next_ : Boxed W (B + 2) 116 (.func (.func 66) #[] #[.pointer (some ⟨B, 0, none⟩), .pointer (some ⟨B + 1, 0, none⟩)])
theorem It.box {w : World} {v : Value} {B q : Nat} {W : World} (h : It w v B q W) : W.cell? ⟨B, 0, none⟩ = some v := h.box_.cell
theorem It.at_ {w : World} {v : Value} {B q : Nat} {W : World} (h : It w v B q W) : W.cell? ⟨B + 1, 0, none⟩ = some (.int .i64 (q : Int)) := h.here.cell
theorem It.thaw {w : World} {v : Value} {B q : Nat} {W : World} (h : It w v B q W) : W.frozen? ⟨B + 1, 0, none⟩ = false := h.here.frozen
theorem It.next {w : World} {v : Value} {B q : Nat} {W : World} (h : It w v B q W) : W.cell? ⟨B + 2, 0, none⟩ = some (.func (.func 66) #[] #[.pointer (some ⟨B, 0, none⟩), .pointer (some ⟨B + 1, 0, none⟩)]) := h.next_.cell

/-- The blocks of S alone may turn. -/
structure Keeps (S : Nat → Prop) (W W' : World) : Prop where
  os : W'.os = W.os
  tape : W'.tape = W.tape
  output : W'.output = W.output
  size : W.heap.size ≤ W'.heap.size
  block : ∀ k, k < W.heap.size → ¬ S k → W'.heap[k]? = W.heap[k]?
theorem Keeps.refl (S : Nat → Prop) (W : World) : Keeps S W W := ⟨rfl, rfl, rfl, Nat.le_refl _, fun _ _ _ => rfl⟩
theorem Keeps.trans {S : Nat → Prop} {A B C : World} (h : Keeps S A B) (k : Keeps S B C) : Keeps S A C :=
  ⟨k.os.trans h.os, k.tape.trans h.tape, k.output.trans h.output, Nat.le_trans h.size k.size, fun i hi hs => (k.block i (Nat.lt_of_lt_of_le hi h.size) hs).trans (h.block i hi hs)⟩
theorem Keeps.of_grown {S : Nat → Prop} {W W' : World} {row : Option Nat} (hg : W.grownBy W' row) (h : ∀ k, row = some k → S k) : Keeps S W W' :=
  ⟨hg.os, hg.tape, hg.output, hg.size, fun k hk hs => hg.block k hk (fun e => hs (h k e.symm))⟩
theorem Keeps.ext {S : Nat → Prop} {w W W' : World} (h : Keeps S W W') (hx : Ext w W) (hS : ∀ k, S k → w.heap.size ≤ k) : Ext w W' :=
  ⟨h.os.trans hx.os, h.tape.trans hx.tape, h.output.trans hx.output, Nat.le_trans hx.size h.size, fun k hk => (h.block k (Nat.lt_of_lt_of_le hk hx.size) (fun e => by have := hS k e; omega)).trans (hx.block k hk)⟩
theorem Keeps.heap {S : Nat → Prop} {W W' : World} (h : Keeps S W W') {k : Nat} {o : Obj} (ho : W.heap[k]? = some o) (hS : ¬ S k) : W'.heap[k]? = some o :=
  (h.block k (Array.getElem?_eq_some_iff.1 ho).1 hS).trans ho
theorem It.keeps {S : Nat → Prop} {w : World} {v : Value} {B q : Nat} {W W' : World} (h : It w v B q W) (hk : Keeps S W W') (hw : ∀ k, S k → w.heap.size ≤ k) (h0 : ¬ S B) (h1 : ¬ S (B + 1)) (h2 : ¬ S (B + 2)) : It w v B q W' :=
  ⟨hk.ext h.ext hw, hk.heap h.box_ h0, hk.heap h.here h1, hk.heap h.next_ h2⟩
theorem Rec.keeps {S : Nat → Prop} {W W' : World} {base : Nat} {v : Value} {r : List UInt8} (h : Rec W base v r) (hk : Keeps S W W') (hS : ∀ k, S k → k < base ∨ ∀ c fr, W.heap[k]? ≠ some (.cells c 5 fr)) : Rec W' base v r := by
  obtain ⟨g, cap, h4, h1, h2, ⟨h3, h3'⟩, h5⟩ := h
  refine ⟨g, cap, h4, h1, h2, ⟨h3, ?_⟩, h5⟩
  rcases h3' with h3' | ⟨g', cap', cur, hv, hg, hh, r⟩
  · exact .inl h3'
  · exact .inr ⟨g', cap', cur, hv, hg, hk.heap hh (fun e => (hS g' e).elim (fun h => by omega) (fun h => h _ _ hh)), r⟩

theorem It.ext' {w : World} {v : Value} {B q : Nat} {W W' : World} (h : It w v B q W) (hx : Ext W W') (_hB : B + 2 < W.heap.size) : It w v B q W' :=
  h.keeps (S := fun _ => False) ⟨hx.os, hx.tape, hx.output, hx.size, fun k hk _ => hx.block k hk⟩ (fun _ => False.elim) id id id

theorem Rec.other {w : World} {base : Nat} {v : Value} {r : List UInt8} (h : Rec w base v r) {p : Addr} (hp : p.block < base) (u : Value) : Rec (w.setCell p u) base v r := by
  obtain ⟨g, cap, h4, h1, h2, h3, h5⟩ := h; exact ⟨g, cap, h4, h1, h2, ownsRow_setCell_below h3 hp u, h5⟩
theorem Rec.drew {w : World} {base : Nat} {v : Value} {r : List UInt8} (h : Rec w base v r) : Rec w.drew base v r := h.ext (Ext.drew (Ext.refl _))

theorem grown_of_ext {W W' : World} (h : Ext W W') : W.grownBy W' none := ⟨h.os, h.tape, h.output, h.size, fun k hk _ => h.block k hk⟩
theorem grown_set (W : World) (g : Nat) (x : Value) : W.grownBy (W.setCell ⟨g, 0, none⟩ x).drew (some g) :=
  let h := grownBy_setCell' W g x
  ⟨h.os, h.tape, h.output, h.size, h.block⟩

theorem It.step {w : World} {v : Value} {B q : Nat} {W : World} (h : It w v B q W) (hB : w.heap.size ≤ B) (q' : Nat) : It w v B q' (W.setCell ⟨B + 1, 0, none⟩ (.int .i64 (q' : Int))).drew where
  ext := (Ext.setCell h.ext (p := ⟨B + 1, 0, none⟩) (by show _ ≤ B + 1; omega) _).drew
  box_ := h.box_.other (by omega) _
  here := h.here.set _
  next_ := h.next_.other (by omega) _

theorem RecOr.mono {w : World} {base base' : Nat} {v : Value} {o : Option (List UInt8)} (h : RecOr w base v o) (hb : base' ≤ base) : RecOr w base' v o := by
  cases o with
  | none => exact h
  | some r => exact Rec.mono h hb

theorem frs_snoc (l : List (List UInt8)) (r : List UInt8) : frs (l ++ [r]) = frs l ++ fr r := by simp [frs]

set_option maxHeartbeats 1000000 in
theorem iter_any (n l : Nat) (w : World) (v : Value) (b : List UInt8) (B : Nat) (hv : Bytes w v b) (hB : w.heap.size ≤ B) (U : List (List UInt8) → World → Prop)
    (hU : ∀ pre W W' k, U pre W → W.grownBy W' k → (k = none ∨ k = some (B + 1)) → U pre W')
    (hS : ∀ pre W, U pre W → B + 2 < W.heap.size)
    (hY : ∀ pre q r u W, It w v B (q + (r.length + 8)) W → U pre W → Rec W (B + 3) u r → q = (frs pre).length → Good r → q + (r.length + 8) ≤ b.length → YieldAt Fence.wide (n - 1) Tryd.prog l #[.int .i64 ((q + (r.length + 8) : Nat) : Int), u] W fun e W' =>
      e = .returned (.bool true) ∧ It w v B (q + (r.length + 8)) W' ∧ U (pre ++ [r]) W')
    (W : World) (hI : It w v B 0 W) (h0 : U [] W) :
    CallsIn Fence.wide n Tryd.prog 69 #[.func (.yield l) #[] #[], .pointer (some ⟨B + 2, 0, none⟩), .pointer (some ⟨B + 1, 0, none⟩)] W fun e W' =>
      (∃ x, e = .returned x) ∧ Ext w W' ∧ U (splitF b).1 W' := by
  refine callsIn_of_wp Tryd.func69 rfl trivial ?_ rfl
  simp only [Tryd.ntmps69, List.size_toArray, List.length_cons, List.length_nil, Nat.reduceAdd, Nat.reduceSub, Array.replicate_succ, Array.replicate_zero, List.push_toArray, List.append_toArray, List.nil_append, List.cons_append]
  have hn := hI.next
  gi_wp2_with fail
  refine ⟨trivial, fun h => (by cases h), ?_⟩
  refine CallsIn.mono (callsIn_wide.2 (next_any W B (B + 1) v b 0 hI.box (hv.ext hI.ext) hI.at_ (Nat.zero_le _))) ?_
  rintro e W1 ⟨p1, rfl, hx1, hr1⟩
  have hW := hS _ _ h0
  have hI1 := hI.ext' hx1 hW
  have h1 : U [] W1 := hU _ _ _ none h0 (grown_of_ext hx1) (.inl rfl)
  gi_wp2_with fail
  gi_loopw [4] (fun p wr => ∃ pre : List (List UInt8), (∀ r ∈ pre, Good r) ∧ b = frs pre ++ b.drop (frs pre).length ∧ It w v B (frs pre).length wr ∧ U pre wr ∧ RecOr wr (B + 3) p (nextR (b.drop (frs pre).length)))
    (fun _ wr => b.length - (intOf ((wr.cell? ⟨B + 1, 0, none⟩).getD undef)).toNat)
  case atStart => exact ⟨[], by simp, by simp [frs], hI1, h1, (RecOr.mono hr1 (by omega))⟩
  case round =>
    obtain ⟨pre, hg, hbe, hIr, hUr, hrr⟩ := hrel
    have hsz := hS _ _ hUr
    obtain ⟨d, hd⟩ : ∃ d, b.drop (frs pre).length = d := ⟨_, rfl⟩
    rw [hd] at hbe hrr
    cases hnx : nextR d with
    | none =>
      rw [hnx] at hrr
      cases hrr
      gi_wp2_with fail
      go_end0
      refine ⟨⟨_, rfl⟩, hIr.ext, ?_⟩
      have := splitF_frs pre d hg
      rw [← hbe, splitF_none hnx, List.append_nil] at this
      rw [this]; exact hUr
    | some r =>
      rw [hnx] at hrr
      obtain ⟨g, cap, h4, _, _, _, hp⟩ := id hrr
      subst hp
      have hat := hIr.at_
      have hth := hIr.thaw
      obtain ⟨hgr, t, hdt⟩ := nextR_some hnx
      have hlen : b.length = (frs pre).length + (r.length + 8 + t.length) := by
        conv => lhs; rw [hbe, hdt]
        simp only [List.length_append, fr_length]
      have hbl := Row.len_le hv
      unfold maxLen at hbl
      have hsr : sizeR r = r.length + 8 := by rw [sizeR, if_pos (show 1 ≤ r.length ∧ r.length ≤ 2048 from hgr)]
      have hrb : Bytes wr (.slice (some ⟨g, 4, none⟩) r.length (cap - 4)) r := Rec.bytes hrr
      generalize hq : (frs pre).length = q at *
      have hq63 : (q : Int) + ((r.length : Int) + 8) ≤ 9223372036854775807 := by omega
      have hmix : Tryd.prog.follows .mixedOrders = true := by kernel_rfl
      have hcast : IntKind.i64.wrap ((q : Int) + ((r.length : Int) + 8)) = ((q + (r.length + 8) : Nat) : Int) := by rw [IntKind.wrap_i64]; omega
      have HC := Lib.hid hcast; clear hcast
      gi_wp2_with fail
      gi_region_with_o (refine ⟨trivial, fun h => (by cases h), ?_⟩; refine CallsIn.mono (callsIn_wide.2 (size_any _ _ _ (by first | exact hrb | exact hrb.ext (Ext.drewN _ _) | exact hrb.ext (Ext.drew (Ext.refl _))))) ?_; rintro e w2 ⟨rfl, rfl⟩; rw [hsr])
      all_goals rw [HC.out]
      all_goals
        have hI3 := hIr.step hB (q + (r.length + 8))
        have hU3 := hU _ _ _ _ hUr (grown_set wr (B + 1) (.int .i64 ((q + (r.length + 8) : Nat) : Int))) (.inr rfl)
        have hr3 : Rec (wr.setCell ⟨B + 1, 0, none⟩ (.int .i64 ((q + (r.length + 8) : Nat) : Int))).drew (B + 3) _ r := (Rec.other hrr (p := ⟨B + 1, 0, none⟩) (by show B + 1 < B + 3; omega) _).drew
        have hat3 := hI3.at_
        generalize (wr.setCell ⟨B + 1, 0, none⟩ (.int .i64 ((q + (r.length + 8) : Nat) : Int))).drew = W3 at *
        obtain ⟨fn, tmps, assign, body, hy, hR⟩ := hY pre q r _ W3 hI3 hU3 hr3 hq.symm hgr (by omega)
        generalize hq' : q + (r.length + 8) = q' at *
        have HQ' := Lib.hid hq'; clear hq'
        gi_wp2_with fail
        refine ⟨fun h => (by cases h), ?_⟩
        refine hR.mono ?_
        rintro e W4 ⟨rfl, hI4, hU4⟩
        have hn4 := hI4.next
        have hsz4 := hS _ _ hU4
        gi_wp2_with fail
        refine ⟨trivial, fun h => (by cases h), ?_⟩
        refine CallsIn.mono (callsIn_wide.2 (next_any W4 B (B + 1) v b q' hI4.box (hv.ext hI4.ext) hI4.at_ (by have := HQ'.out; omega))) ?_
        rintro e W5 ⟨p5, rfl, hx5, hr5⟩
        have hI5 := hI4.ext' hx5 hsz4
        have hU5 := hU _ _ _ none hU4 (grown_of_ext hx5) (.inl rfl)
        gi_wp2_with fail
        go_roundw
        case rel =>
          have he : (frs (pre ++ [r])).length = q' := by rw [frs_snoc, List.length_append, fr_length, hq, HQ'.out]
          have hb2 : b = frs (pre ++ [r]) ++ b.drop q' := by
            have h1 : b = frs (pre ++ [r]) ++ t := by rw [frs_snoc, List.append_assoc, ← hdt]; exact hbe
            conv => rhs; rw [h1, List.drop_left' he]
            exact h1
          exact ⟨pre ++ [r], fun x hx => by
            rcases List.mem_append.1 hx with hx | hx
            · exact hg x hx
            · rw [List.mem_singleton.1 hx]; exact hgr, by rw [he]; exact hb2, by rw [he]; exact hI5, hU5, by rw [he]; exact RecOr.mono hr5 (by omega)⟩
        case measure =>
          rw [hI5.at_, hat]
          have := HQ'.out
          simp only [Option.getD_some, intOf, Int.toNat_natCast]
          omega

end Go.Proofs.YtkaepcjkpaplfaaDoor
