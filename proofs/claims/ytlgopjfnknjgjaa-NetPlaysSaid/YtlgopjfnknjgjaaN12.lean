/- No net, and one that was not made. -/
import Derived.Test.YtlgopjfnknjgjaaN11
namespace Go.Proofs.Ytlgopjfnknjgjaa
open Go.RowKit Go.MapKept

/-- There is no net. -/
def NilN (w : World) (v : Value) : Prop := v = .pointer none ∨ ∃ bn, v = .pointer (some ⟨bn, 0, none⟩) ∧ w.heap[bn]? = some (.cells #[.int .i64 0, .int .u64 0, .map none] 87 (0, 0))
theorem NilN.ext {w w' : World} {v : Value} (h : NilN w v) (hx : Ext w w') : NilN w' v := by
  rcases h with h | ⟨bn, h, hb⟩
  · exact .inl h
  · exact .inr ⟨bn, h, block_later hb hx⟩
set_option maxHeartbeats 1000000 in
theorem none_true (w : World) (v : Value) (h : NilN w v) : Calls Try.prog 38 #[v] w fun e w' => e = .returned (.bool true) ∧ w = w' := by
  rcases h with rfl | ⟨bn, rfl, hb⟩
  · exact none_nil_same w
  · have c2 := cell_of_row _ _ 2 _ _ _ hb
    clear hb
    have hq : ∀ (w : World), (binOp .eql 85 (.map none) (.map none)).run Try.prog w = .ok (.bool true) w := fun w => by
      have := run_eql_map_nil (P := Try.prog) w 85 28 94 none Try.underlying85
      simpa using this
    go_enter Try.func38, Try.ntmps38
    go_wp2_with fail
    go_ret
    exact ⟨rfl, rfl⟩
set_option maxRecDepth 100000 in
set_option maxHeartbeats 4000000 in
theorem send_nil (w : World) (v : Value) (h : NilN w v) (p q vb : Value) : Calls Try.prog 22 #[v, p, q, vb] w fun e w' => e = .returned (.tuple #[.int .u64 0, .int .i64 2]) ∧ Ext w w' := by
  obtain ⟨hxa, hbx⟩ := boxes1 w (.cells #[v] 48)
  have b0 := cell_of_row _ _ 0 _ _ _ hbx
  have H1 := Lib.hid (h.ext hxa)
  have HXA := Lib.hid hxa
  obtain ⟨pa, rfl⟩ : ∃ pa, v = .pointer pa := by rcases h with h | ⟨bn, h, _⟩ <;> exact ⟨_, h⟩
  clear h hbx hxa
  go_enter Try.func22, Try.ntmps22
  go_wp2_with (go_at_call 38; (with_reducible refine (none_true _ _ H1.out).mono ?_); rintro e w2 ⟨rfl, rfl⟩)
  go_ret2
  exact ⟨rfl, HXA.out⟩
set_option maxRecDepth 100000 in
set_option maxHeartbeats 4000000 in
theorem at_nil (w : World) (v : Value) (h : NilN w v) (id : Int) : Calls Try.prog 40 #[v, .int .u64 id] w fun e w' => e = .returned (.tuple #[.agg #[.int .u64 0, .int .i64 0, .int .i64 0, .slice none 0 0], .int .i64 2]) ∧ Ext w w' := by
  have hxa : Ext w (w.alloc (.cells #[.int .u64 0, .int .i64 0, .int .i64 0, .slice none 0 0] 94)) := (Ext.refl w).alloc _
  have H1 := Lib.hid (h.ext hxa)
  obtain ⟨pa, rfl⟩ : ∃ pa, v = .pointer pa := by rcases h with h | ⟨bn, h, _⟩ <;> exact ⟨_, h⟩
  clear h hxa
  go_enter Try.func40, Try.ntmps40
  go_wp2_with (go_at_call 38; (with_reducible refine (none_true _ _ H1.out).mono ?_); rintro e w2 ⟨rfl, rfl⟩)
  exact bodyPost_ret (v := .tuple #[.agg #[.int .u64 0, .int .i64 0, .int .i64 0, .slice none 0 0], .int .i64 2]) (by simp [results, Try.results40, go_sem]) rfl ⟨rfl, (Ext.refl _).alloc _⟩
set_option maxRecDepth 100000 in
set_option maxHeartbeats 4000000 in
theorem deliver_nil (w : World) (v : Value) (h : NilN w v) (id : Int) : Calls Try.prog 23 #[v, .int .u64 id] w fun e w' => e = .returned (.tuple #[.int .i64 0, .int .i64 0, .slice none 0 0, .int .i64 2]) ∧ Ext w w' := by
  have HA := Lib.hid (at_nil w v h id)
  clear h
  go_enter Try.func23, Try.ntmps23
  go_wp2_with ((with_reducible refine HA.out.mono ?_); rintro e w2 ⟨rfl, hx⟩; have HX := Lib.hid hx; clear hx)
  exact bodyPost_ret (v := .tuple #[.int .i64 0, .int .i64 0, .slice none 0 0, .int .i64 2]) (by simp [results, Try.results23, go_sem]) rfl ⟨rfl, HX.out.alloc _⟩
set_option maxRecDepth 100000 in
set_option maxHeartbeats 4000000 in
theorem drop_nil (w : World) (v : Value) (h : NilN w v) (id : Int) : Calls Try.prog 24 #[v, .int .u64 id] w fun e w' => e = .returned (.int .i64 2) ∧ Ext w w' := by
  have HA := Lib.hid (deliver_nil w v h id)
  clear h
  go_enter Try.func24, Try.ntmps24
  go_wp2_with ((with_reducible refine HA.out.mono ?_); rintro e w2 ⟨rfl, hx⟩; have HX := Lib.hid hx; clear hx)
  go_ret
  exact ⟨rfl, HX.out⟩
set_option maxRecDepth 100000 in
set_option maxHeartbeats 4000000 in
theorem double_nil (w : World) (v : Value) (h : NilN w v) (id : Int) : Calls Try.prog 25 #[v, .int .u64 id] w fun e w' => e = .returned (.tuple #[.int .u64 0, .int .i64 2]) ∧ Ext w w' := by
  have HA := Lib.hid (at_nil w v h id)
  clear h
  go_enter Try.func25, Try.ntmps25
  go_wp2_with ((with_reducible refine HA.out.mono ?_); rintro e w2 ⟨rfl, hx⟩; have HX := Lib.hid hx; clear hx)
  go_ret2
  exact ⟨rfl, HX.out.alloc _⟩
set_option maxRecDepth 100000 in
set_option maxHeartbeats 4000000 in
theorem ways_nil (w : World) (v : Value) (h : NilN w v) : Calls Try.prog 26 #[v] w fun e w' => e = .returned (.slice none 0 0) ∧ Ext w w' := by
  have H1 := Lib.hid h
  clear h
  go_enter Try.func26, Try.ntmps26
  go_wp2_with (go_at_call 38; (with_reducible refine (none_true _ _ H1.out).mono ?_); rintro e w2 ⟨rfl, rfl⟩)
  go_ret
  exact ⟨rfl, Ext.refl _⟩
set_option maxRecDepth 100000 in
set_option maxHeartbeats 4000000 in
theorem between_nil (w : World) (v : Value) (h : NilN w v) (p q : Int) : Calls Try.prog 33 #[v, .int .i64 p, .int .i64 q] w fun e w' => e = .returned (.slice none 0 0) ∧ Ext w w' := by
  have H1 := Lib.hid h
  clear h
  go_enter Try.func33, Try.ntmps33
  go_wp2_with (go_at_call 26; (with_reducible refine (ways_nil _ _ H1.out).mono ?_); rintro e w2 ⟨rfl, hx⟩; have HX := Lib.hid hx; clear hx)
  go_loop [7, 13] (fun v i => v = .slice none 0 0 ∧ i = .int .i64 0) (fun _ _ => 0)
  case atStart => exact ⟨rfl, rfl⟩
  case round =>
    obtain ⟨rfl, rfl⟩ := hrel
    go_wp2_with fail
    go_ret
    exact ⟨rfl, HX.out⟩
set_option maxRecDepth 100000 in
set_option maxHeartbeats 4000000 in
theorem copy_nil (w : World) (v : Value) (h : NilN w v) : Calls Try.prog 32 #[v] w fun e w' => e = .returned (.pointer none) ∧ Ext w w' := by
  have H1 := Lib.hid h
  clear h
  go_enter Try.func32, Try.ntmps32
  go_wp2_with (go_at_call 38; (with_reducible refine (none_true _ _ H1.out).mono ?_); rintro e w2 ⟨rfl, rfl⟩)
  go_ret
  exact ⟨rfl, Ext.refl _⟩
set_option maxRecDepth 100000 in
set_option maxHeartbeats 4000000 in
theorem send_full (w : World) (base bn bm k last : Nat) (L : List PK) (h : NetR w base bn bm k last L) (p q : Nat) (ab : Option Addr) (nb cb : Nat) (hin : p < k ∧ q < k) (hne : p ≠ q) (hlb : nb ≤ 4096) (hf : 4096 ≤ L.length) :
    Calls Try.prog 22 #[.pointer (some ⟨bn, 0, none⟩), .int .i64 p, .int .i64 q, .slice ab nb cb] w fun e w' => e = .returned (.tuple #[.int .u64 0, .int .i64 7]) ∧ Ext w w' := by
  obtain ⟨hxa, hbx⟩ := boxes1 w (.cells #[.pointer (some ⟨bn, 0, none⟩)] 48)
  have b0 := cell_of_row _ _ 0 _ _ _ hbx
  have H1 := Lib.hid (h.ext hxa)
  have HBX := Lib.hid hbx
  have HXA := Lib.hid hxa
  have HF := Lib.hid hf
  clear h hbx hxa hf
  have hp : (decide (0 ≤ (p : Int)) && decide ((p : Int) < k)) = true := by simp; omega
  have hq : (decide (0 ≤ (q : Int)) && decide ((q : Int) < k)) = true := by simp; omega
  have hE : decide ((p : Int) = (q : Int)) = false := decide_eq_false (by omega)
  have hE2 : decide (p = q) = false := decide_eq_false hne
  have hE4 : ((p : Int) == (q : Int)) = false := beq_eq_false_iff_ne.2 (by omega)
  have hE5 : (p == q) = false := beq_eq_false_iff_ne.2 hne
  have hL : decide ((4096 : Int) < (nb : Int)) = false := decide_eq_false (by omega)
  clear hin
  go_enter Try.func22, Try.ntmps22
  go_wp2_with (first
    | (go_at_call 38; (with_reducible refine (none_any _ _ _ _ _ _ _ H1.out).mono ?_); rintro e w2 ⟨rfl, hx⟩; have b2 := hx.cell b0; have H2 := Lib.hid (H1.out.ext hx); have HB2 := Lib.hid (block_later HBX.out hx); have HX2 := Lib.hid (HXA.out.trans hx); clear hx b0)
    | (go_at_call 37; (with_reducible refine (broker_any _ _ _ _ _ _ _ _ H2.out HB2.out (p : Int)).mono ?_); rintro e w3 ⟨rfl, hx⟩; rw [hp]; have HX3 := Lib.hid hx; clear hx)
    | (go_at_call 37; (with_reducible refine (broker_any _ _ _ _ _ _ _ _ (H2.out.ext HX3.out) (block_later HB2.out HX3.out) (q : Int)).mono ?_); rintro e w4 ⟨rfl, hx⟩; rw [hq]; have HX4 := Lib.hid hx; have b3 := HX3.out.cell b2; have b4 := hx.cell b3; clear hx b2 b3)
    | (go_at_call 39; (with_reducible refine (out_full _ _ _ _ _ _ _ (H2.out.ext (HX3.out.trans HX4.out)) _ _ _ HF.out).mono ?_); rintro e w5 ⟨rfl, hx⟩; have HX5 := Lib.hid hx; clear hx))
  go_ret2
  exact ⟨rfl, HX2.out.trans (HX3.out.trans (HX4.out.trans HX5.out))⟩
end Go.Proofs.Ytlgopjfnknjgjaa
