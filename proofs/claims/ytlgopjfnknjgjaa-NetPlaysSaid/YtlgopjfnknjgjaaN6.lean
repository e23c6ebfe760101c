/- at (40): the packet of a number. -/
import Derived.Test.YtlgopjfnknjgjaaN5
namespace Go.Proofs.Ytlgopjfnknjgjaa
open Go.RowKit Go.MapKept

set_option maxHeartbeats 1000000 in
theorem none_same (w : World) (base bn bm k last : Nat) (L : List PK) (h : NetR w base bn bm k last L) : Calls Try.prog 38 #[.pointer (some ⟨bn, 0, none⟩)] w fun e w' => e = .returned (.bool false) ∧ w = w' := by
  obtain ⟨c0, c1, c2⟩ := h.cell
  clear h
  have hq : ∀ (w : World) (r : Nat), (binOp .eql 85 (.map (some r)) (.map none)).run Try.prog w = .ok (.bool false) w := fun w r => by
    have := run_eql_map_nil (P := Try.prog) w 85 28 94 (some r) Try.underlying85
    simpa using this
  go_enter Try.func38, Try.ntmps38
  go_wp2_with fail
  go_ret
  exact ⟨rfl, rfl⟩
set_option maxHeartbeats 1000000 in
theorem none_nil_same (w : World) : Calls Try.prog 38 #[.pointer none] w fun e w' => e = .returned (.bool true) ∧ w = w' := by
  go_enter Try.func38, Try.ntmps38
  go_wp2_with fail
  go_ret
  exact ⟨rfl, rfl⟩
def zP : Value := .agg #[.int .u64 0, .int .i64 0, .int .i64 0, .slice none 0 0]
theorem zero94 : ∀ w, (zeroValue 94).run Try.prog w = .ok zP w := fun _ => by kernel_rfl

set_option maxRecDepth 100000 in
set_option maxHeartbeats 4000000 in
theorem at_no (w : World) (base bn bm k last : Nat) (L : List PK) (h : NetR w base bn bm k last L) (id : Nat) (hno : ∀ x ∈ L, x.id ≠ id) : Calls Try.prog 40 #[.pointer (some ⟨bn, 0, none⟩), .int .u64 id] w fun e w' => e = .returned (.tuple #[.agg #[.int .u64 0, .int .i64 0, .int .i64 0, .slice none 0 0], .int .i64 6]) ∧ Ext w w' := by
  obtain ⟨c0, c1, c2⟩ := h.cell
  have hxa : Ext w (w.alloc (.cells #[.int .u64 0, .int .i64 0, .int .i64 0, .slice none 0 0] 94)) := (Ext.refl w).alloc _
  have d2 := hxa.cell c2
  have hlook := ((h.ext hxa).map.unknown (P := Try.prog) (t := 85) (e := 94) Try.underlying85 Try.underlying28 (zero94 _) (key := .int .u64 (id : Nat)) rfl (fun p hp => by
    obtain ⟨y, hy, rfl⟩ := List.mem_map.1 hp
    exact u64_ne (hno y hy))).2
  have H1 := Lib.hid (h.ext hxa)
  unfold zP at hlook
  clear h hno c0 c1 c2 hxa
  go_enter Try.func40, Try.ntmps40
  go_wp2_with (go_at_call 38; (with_reducible refine (none_same _ _ _ _ _ _ _ H1.out).mono ?_); rintro e w2 ⟨rfl, rfl⟩)
  exact bodyPost_ret (v := .tuple #[.agg #[.int .u64 0, .int .i64 0, .int .i64 0, .slice none 0 0], .int .i64 6]) (by simp [results, Try.results40, go_sem]) rfl ⟨rfl, ((Ext.refl _).alloc _).alloc _⟩
set_option maxRecDepth 100000 in
set_option maxHeartbeats 4000000 in
theorem at_yes (w : World) (base bn bm k last : Nat) (L : List PK) (h : NetR w base bn bm k last L) (x : PK) (hx : x ∈ L) (ax : Option Addr) (nx cx : Nat) (hh : x.h = .slice ax nx cx) : Calls Try.prog 40 #[.pointer (some ⟨bn, 0, none⟩), .int .u64 x.id] w fun e w' => e = .returned (.tuple #[.agg #[.int .u64 x.id, .int .i64 x.fr, .int .i64 x.dst, .slice ax nx cx], .int .i64 0]) ∧ Ext w w' := by
  obtain ⟨c0, c1, c2⟩ := h.cell
  have hxa : Ext w (w.alloc (.cells #[.int .u64 0, .int .i64 0, .int .i64 0, .slice none 0 0] 94)) := (Ext.refl w).alloc _
  have d2 := hxa.cell c2
  have hlook := ((h.ext hxa).map.known (P := Try.prog) (t := 85) (e := 94) Try.underlying85 Try.underlying28 (zero94 _) (List.mem_map.2 ⟨x, hx, rfl⟩ : (Value.int .u64 (x.id : Nat), pV x) ∈ L.map pE)).2
  have H1 := Lib.hid (h.ext hxa)
  unfold pV at hlook
  rw [hh] at hlook
  clear h hx c0 c1 c2 hxa hh
  go_enter Try.func40, Try.ntmps40
  go_wp2_with (go_at_call 38; (with_reducible refine (none_same _ _ _ _ _ _ _ H1.out).mono ?_); rintro e w2 ⟨rfl, rfl⟩)
  exact bodyPost_ret (v := .tuple #[.agg #[.int .u64 x.id, .int .i64 x.fr, .int .i64 x.dst, .slice ax nx cx], .int .i64 0]) (by simp [results, Try.results40, go_sem]) rfl ⟨rfl, ((Ext.refl _).alloc _).alloc _⟩
end Go.Proofs.Ytlgopjfnknjgjaa
