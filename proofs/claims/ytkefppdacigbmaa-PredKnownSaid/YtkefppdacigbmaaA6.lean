/- event.Get. -/
import Derived.Test.YtkefppdacigbmaaA5
namespace Go.Proofs.Ytkefppdacigbmaa
open Go.RowKit

theorem info28s : (Try.prog.info? 28).map (·.size) = some 4 := by kernel_rfl

set_option maxRecDepth 100000 in
set_option maxHeartbeats 4000000 in
theorem get_any (w : World) (key name : List UInt8) (va : Value) (l : List (List UInt8 × V)) (h : AttrR w va l) :
    Calls Try.prog 57 #[.agg #[.string (strOf key), va], .string (strOf name)] w
      fun e w' => e = .returned (.tuple #[.agg #[.int .i64 (getV l name).1.k, .int .i64 (getV l name).1.n, .string (strOf (getV l name).1.s), .bool (getV l name).1.b], .bool (getV l name).2]) ∧ Ext w w' := by
  obtain ⟨aa, ca, rfl, hca, hma⟩ := Row.shape h
  unfold maxLen at hma
  have hx0 : Ext w (((w.alloc (.cells #[.string (strOf key), .slice aa l.length ca] 26)).alloc (.cells #[.string (strOf name)] 9)).alloc (.cells #[.int .i64 0, .int .i64 0, .string ⟨#[]⟩, .bool false] 28)) := (((Ext.refl w).alloc _).alloc _).alloc _
  have h1 : (((w.alloc (.cells #[.string (strOf key), .slice aa l.length ca] 26)).alloc (.cells #[.string (strOf name)] 9)).alloc (.cells #[.int .i64 0, .int .i64 0, .string ⟨#[]⟩, .bool false] 28)).cell? ⟨w.heap.size + 1, 0, none⟩ = some (.string (strOf name)) := by
    refine ((Ext.refl _).alloc _).cell ?_
    have h := cell_of_row _ _ 0 _ _ _ (heap_alloc_new (w.alloc (.cells #[.string (strOf key), .slice aa l.length ca] 26)) (.cells #[.string (strOf name)] 9))
    rw [World.size_alloc] at h
    exact h
  have h2 : (((w.alloc (.cells #[.string (strOf key), .slice aa l.length ca] 26)).alloc (.cells #[.string (strOf name)] 9)).alloc (.cells #[.int .i64 0, .int .i64 0, .string ⟨#[]⟩, .bool false] 28)).heap[w.heap.size + 1 + 1]? = some (.cells #[.int .i64 0, .int .i64 0, .string ⟨#[]⟩, .bool false] 28 (0, 0)) := by
    have := heap_alloc_new ((w.alloc (.cells #[.string (strOf key), .slice aa l.length ca] 26)).alloc (.cells #[.string (strOf name)] 9)) (.cells #[.int .i64 0, .int .i64 0, .string ⟨#[]⟩, .bool false] 28)
    rw [World.size_alloc, World.size_alloc] at this
    exact this
  have h3 : (((w.alloc (.cells #[.string (strOf key), .slice aa l.length ca] 26)).alloc (.cells #[.string (strOf name)] 9)).alloc (.cells #[.int .i64 0, .int .i64 0, .string ⟨#[]⟩, .bool false] 28)).cell? ⟨w.heap.size, 1, none⟩ = some (.slice aa l.length ca) := by
    exact (((Ext.refl _).alloc _).alloc _).cell (cell_of_row _ _ 1 _ _ _ (heap_alloc_new w (.cells #[.string (strOf key), .slice aa l.length ca] 26)))
  generalize hG : getV l name = G at *
  have HG := Lib.hid hG
  clear hG
  go_enter Try.func57, Try.ntmps57
  go_wp2_with fail
  have hla := h.ext hx0
  have hcl : ∀ (W : World) (x : List UInt8 × V), Ext (((w.alloc (.cells #[.string (strOf key), .slice aa l.length ca] 26)).alloc (.cells #[.string (strOf name)] 9)).alloc (.cells #[.int .i64 0, .int .i64 0, .string ⟨#[]⟩, .bool false] 28)) W → x ∈ l → Calls Try.prog 113 (#[.agg #[.string (strOf x.1), .int .i64 x.2.k, .int .i64 x.2.n, .string (strOf x.2.s), .bool x.2.b]] ++ #[.pointer (some ⟨w.heap.size + 1, 0, none⟩)]) W fun e W' => e = .returned (.bool (decide (x.1 = name))) ∧ Ext W W' :=
    fun W x hx _ => get113_any W (w.heap.size + 1) name (hx.cell h1) x
  refine (idxA_any _ _ l hla 113 #[.pointer (some ⟨w.heap.size + 1, 0, none⟩)] (fun x => decide (x.1 = name)) ent113 hcl).mono ?_
  rintro e w2 ⟨rfl, hx2⟩
  have hg := idxP_get (fun x : List UInt8 × V => decide (x.1 = name)) l
  have hB4 : w2.heap[w.heap.size + 1 + 1]? = some (.cells #[.int .i64 0, .int .i64 0, .string ⟨#[]⟩, .bool false] 28 (0, 0)) := by rw [hx2.block _ (Array.getElem?_eq_some_iff.1 h2).1]; exact h2
  have h32 := hx2.cell h3
  have hl2 := hla.ext hx2
  have hxw := hx0.trans hx2
  have HB4 := Lib.hid hB4
  clear hcl hla h1 h2 h3 hx2 hx0 hB4 h
  generalize idxP (fun x : List UInt8 × V => decide (x.1 = name)) l = ix at *
  rcases hg with ⟨rfl, hf⟩ | ⟨i, hi, rfl, hf⟩
  · have hgv : G = (⟨0, 0, [], false⟩, false) := by rw [← HG.out]; unfold getV getE; rw [hf]; rfl
    subst hgv
    clear hf
    go_wp2_with (refine wpList_store_whole 28 (.tmp 4) (.tmp 13) rfl rfl (w.heap.size + 1 + 1) rfl #[.int .i64 0, .int .i64 0, .string ⟨#[]⟩, .bool false] rfl _ 28 HB4.out rfl info28s (by simp [Value.oneCell']) ?_)
    have hR := setRow_heap _ _ _ #[.int .i64 0, .int .i64 0, .string ⟨#[]⟩, .bool false] _ _ HB4.out
    have r0 := cell_of_row _ _ 0 _ _ _ hR
    have r1 := cell_of_row _ _ 1 _ _ _ hR
    have r2 := cell_of_row _ _ 2 _ _ _ hR
    have r3 := cell_of_row _ _ 3 _ _ _ hR
    refine bodyPost_ret (v := .tuple #[.agg #[.int .i64 0, .int .i64 0, .string (strOf []), .bool false], .bool false]) (by simp [results, Try.results57, go_sem, r0, r1, r2, r3]; rfl) rfl ⟨rfl, hxw.setRow (by omega) _⟩
  · have hgv : G = (l[i].2, true) := by rw [← HG.out]; unfold getV getE; rw [hf]; rfl
    obtain ⟨B1, o1, rfl, f0, f1, f2, f3, f4⟩ := AttrR.at hl2 hi
    generalize l[i] = x at *
    subst hgv
    have hI : decide ((i : Int) < 0) = false := decide_eq_false (by omega)
    clear hf
    go_wp2_with (refine wpList_store_whole 28 (.tmp 4) (.tmp 19) rfl rfl (w.heap.size + 1 + 1) rfl #[.int .i64 x.2.k, .int .i64 x.2.n, .string (strOf x.2.s), .bool x.2.b] rfl _ 28 HB4.out rfl info28s (by simp [Value.oneCell']) ?_)
    have hR := setRow_heap _ _ _ #[.int .i64 x.2.k, .int .i64 x.2.n, .string (strOf x.2.s), .bool x.2.b] _ _ HB4.out
    have r0 := cell_of_row _ _ 0 _ _ _ hR
    have r1 := cell_of_row _ _ 1 _ _ _ hR
    have r2 := cell_of_row _ _ 2 _ _ _ hR
    have r3 := cell_of_row _ _ 3 _ _ _ hR
    refine bodyPost_ret (v := .tuple #[.agg #[.int .i64 x.2.k, .int .i64 x.2.n, .string (strOf x.2.s), .bool x.2.b], .bool true]) (by simp [results, Try.results57, go_sem, r0, r1, r2, r3]) rfl ⟨rfl, hxw.setRow (by omega) _⟩
end Go.Proofs.Ytkefppdacigbmaa
