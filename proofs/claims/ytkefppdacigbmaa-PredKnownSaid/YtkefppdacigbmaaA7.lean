/- pred.Matches. -/
import Derived.Test.YtkefppdacigbmaaA6
namespace Go.Proofs.Ytkefppdacigbmaa
open Go.RowKit

theorem asks_get {l : List (List UInt8 × V)} {c : C} : asksE l c = (match getV l c.name with | (v, ok) => ok && holdsC c v) := by
  unfold asksE getV
  cases getE l c.name <;> rfl

set_option maxRecDepth 100000 in
set_option maxHeartbeats 4000000 in
theorem match56_any (w : World) (B : Nat) (key : List UInt8) (aa : Option Addr) (ca : Nat) (l : List (List UInt8 × V)) (hb : w.heap[B]? = some (.cells #[.string (strOf key), .slice aa l.length ca] 26 (0, 0))) (hl : AttrR w (.slice aa l.length ca) l)
    (c : C) (sa : Option Addr) (sc : Nat) (hs : SetR w (.slice sa c.set.length sc) c.set) :
    Calls Try.prog 56 #[.agg #[.string (strOf c.name), .int .i64 c.op, .int .i64 c.v.k, .int .i64 c.v.n, .string (strOf c.v.s), .bool c.v.b, .slice sa c.set.length sc], .pointer (some ⟨B, 0, none⟩)] w
      fun e w' => e = .returned (.bool (!asksE l c)) ∧ Ext w w' := by
  have hx0 : Ext w (w.alloc (.cells #[.string (strOf c.name), .int .i64 c.op, .int .i64 c.v.k, .int .i64 c.v.n, .string (strOf c.v.s), .bool c.v.b, .slice sa c.set.length sc] 31)) := (Ext.refl w).alloc _
  have hB : CBox (w.alloc (.cells #[.string (strOf c.name), .int .i64 c.op, .int .i64 c.v.k, .int .i64 c.v.n, .string (strOf c.v.s), .bool c.v.b, .slice sa c.set.length sc] 31)) w.heap.size c sa sc := ⟨heap_alloc_new _ _, hs.ext hx0⟩
  have b0 := hx0.cell (cell_of_row _ _ 0 _ _ _ hb)
  have b1 := hx0.cell (cell_of_row _ _ 1 _ _ _ hb)
  have hl0 := hl.ext hx0
  rw [asks_get]
  generalize hG : getV l c.name = G at *
  have HG := Lib.hid hG
  clear hG hb hs hl
  go_enter Try.func56, Try.ntmps56
  go_wp2_with fail
  generalize w.alloc (.cells #[.string (strOf c.name), .int .i64 c.op, .int .i64 c.v.k, .int .i64 c.v.n, .string (strOf c.v.s), .bool c.v.b, .slice sa c.set.length sc] 31) = wa at *
  refine (get_any wa key c.name _ l hl0).mono ?_
  rw [HG.out]
  obtain ⟨⟨k, n, s, b⟩, ok⟩ := G
  rintro e w2 ⟨rfl, hx2⟩
  have hx2a := hx2.alloc (.cells #[.int .i64 k, .int .i64 n, .string (strOf s), .bool b] 28)
  obtain ⟨c0, c1, c2, c3, c4, c5, c6⟩ := (hB.ext hx2a).cell
  have hs2 := (hB.ext hx2a).s
  have hxw := hx0.trans hx2a
  cases ok
  · go_wp2_with fail
    go_ret
    exact ⟨rfl, hxw⟩
  · go_wp2_with (go_at_call 13; refine (pholds_any _ c sa sc hs2 ⟨k, n, s, b⟩).mono ?_; rintro e w3 ⟨rfl, hx3⟩)
    go_ret
    exact ⟨rfl, hxw.trans hx3⟩

set_option maxRecDepth 100000 in
set_option maxHeartbeats 2000000 in
theorem matches_any (w : World) (v : Value) (p : List C) (key : List UInt8) (va : Value) (l : List (List UInt8 × V)) (hp : PredR w v p) (hl : AttrR w va l) :
    Calls Try.prog 16 #[v, .agg #[.string (strOf key), va]] w fun e w' => e = .returned (.bool (matchP p l)) ∧ Ext w w' := by
  obtain ⟨aa, ca, rfl, hca, hma⟩ := Row.shape hl
  obtain ⟨ap, cp, rfl, hcp, hmp⟩ := hp.shape
  have hx0 : Ext w (w.alloc (.cells #[.string (strOf key), .slice aa l.length ca] 26)) := (Ext.refl w).alloc _
  have hE : (w.alloc (.cells #[.string (strOf key), .slice aa l.length ca] 26)).heap[w.heap.size]? = some (.cells #[.string (strOf key), .slice aa l.length ca] 26 (0, 0)) := heap_alloc_new _ _
  have hl0 := hl.ext hx0
  have hp0 := hp.ext hx0
  have hcon := hasC_any _ _ p hp0 56 #[.pointer (some ⟨w.heap.size, 0, none⟩)] (fun c => !asksE l c) ent56 (fun W x sa sc hx _ hs => match56_any W w.heap.size key aa ca l (by rw [hx.block _ (Array.getElem?_eq_some_iff.1 hE).1]; exact hE) (hl0.ext hx) x sa sc hs)
  have hres : matchP p l = !p.any fun c => !asksE l c := by
    have h : ∀ q : List C, q.all (asksE l) = !q.any fun c => !asksE l c := fun q => by
      induction q with
      | nil => rfl
      | cons c q ih => rw [List.all_cons, List.any_cons, ih]; cases asksE l c <;> simp
    exact h p
  rw [hres]
  clear hres hE hl0 hp0 hl hp
  generalize (p.any fun c => !asksE l c) = r at *
  go_enter Try.func16, Try.ntmps16
  go_wp2_with (go_at_call 55; refine hcon.mono ?_; rintro e w' ⟨rfl, hx⟩)
  go_ret
  exact ⟨rfl, hx0.trans hx⟩
end Go.Proofs.Ytkefppdacigbmaa
