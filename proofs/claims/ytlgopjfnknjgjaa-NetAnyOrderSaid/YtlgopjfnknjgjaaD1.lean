/- Who goes: the closure of parted (47). -/
import Derived.Test.YtlgopjfnknjgjaaL2
import Derived.Test.YtlgopjfnknjgjaaZ2
import Derived.Test.YtlgopjfnknjgjaaM1
import Derived.Test.YtlgopjfnknjgjaaK8
import Derived.Test.YtlgopjfnknjgjaaProg
import Derived.Lib.Hide
import Derived.Deep.DeepCutAuto
namespace Go.Proofs.Ytlgopjfnknjgjaa
open Go.RowKit Go.MapKept

/-- The map of each key's last place. -/
def MapOf (l : List NK) (E : List (Value × Value)) : Prop := ∀ k, (lastF l k = none ∧ ∀ p ∈ E, p.1 ≠ Value.string (strOf k)) ∨ ∃ (j m n : Nat), lastF l k = some (m, n) ∧ E[j]? = some (Value.string (strOf k), Value.int .i64 (m : Nat))
theorem nodup_at {E : List (Value × Value)} (h : (E.map (·.1)).Nodup) {i j : Nat} {k u v : Value} (hi : E[i]? = some (k, u)) (hj : E[j]? = some (k, v)) : u = v := by
  have h1 : (E.map (·.1))[i]? = some k := by rw [List.getElem?_map, hi]; rfl
  have h2 : (E.map (·.1))[j]? = some k := by rw [List.getElem?_map, hj]; rfl
  obtain ⟨l1, _⟩ := List.getElem?_eq_some_iff.1 h1
  have : i = j := (List.getElem?_inj l1 h).1 (h1.trans h2.symm)
  subst this
  rw [hi] at hj
  simp only [Option.some.injEq, Prod.mk.injEq, true_and] at hj
  exact hj
theorem wpList_lookW {P : Program} {ops : Array Oper} {Q : Exit → Act → World → Prop} {a : Act} {w : World} {rest : List Oper} {o : Oper} (m x : Operand) (t : TypeId) (ok : Bool) (hop : o.op = .lookup t m x ok) (hw : Region.wanted o (yielded ops a.tmps) = true) {mv v : Value}
    (hm : a.eval m = mv) {xv : Value} (hx : a.eval x = xv) (hr : (Instr.lookup t mv xv ok).run P w = .ok v w) (h : wpList P ops Q rest (a.put o.dst v) w) : wpList P ops Q (o :: rest) a w :=
  wpList_val hw (by simp [execOp, hop, hm, hx, hr, Result.andThen]) h

set_option maxRecDepth 100000 in
set_option maxHeartbeats 4000000 in
theorem goes_any (w : World) (bl bm b : Nat) (vl : Value) (us : List IT) (E : List (Value × Value)) (hbl : w.heap[bl]? = some (.cells #[vl] 22 (0, 0))) (hbm : w.heap[bm]? = some (.cells #[.map (some b)] 39 (0, 0)))
    (hi : ItemR w vl us) (hm : MapE w b .string E) (hE : MapOf (us.map nkOf) E) (i : Nat) (hlt : i < us.length) :
    Calls Try.prog 47 #[.int .i64 i, .pointer (some ⟨bl, 0, none⟩), .pointer (some ⟨bm, 0, none⟩)] w fun e w' => e = .returned (.bool (goesF (us.map nkOf) i)) ∧ Ext w w' := by
  obtain ⟨a, cap, rfl, _, _⟩ := hi.shape
  obtain ⟨B, o, rfl, f0, f1, f2, f3⟩ := hi.at hlt
  have hat : (us.map nkOf)[i]? = some (us[i].n, us[i].key) := by rw [List.getElem?_map, List.getElem?_eq_getElem hlt]; rfl
  have hg : goesF (us.map nkOf) i = (!us[i].key.isEmpty && decide ((lastF (us.map nkOf) us[i].key).map (·.1) ≠ some i)) := by unfold goesF; rw [hat]
  have hlk := hE us[i].key
  have hno : ∀ h : lastF (us.map nkOf) us[i].key = none, False := fun h => by
    rcases lastF_law (us.map nkOf) us[i].key with ⟨_, hn⟩ | ⟨m, n, e, _⟩
    · exact hn i _ hat
    · rw [h] at e; cases e
  have ml := cell_of_row _ _ 0 _ _ _ hbl
  have mm := cell_of_row _ _ 0 _ _ _ hbm
  rw [hg]
  have hlt' : (i : Int) < (us.length : Int) := by omega
  clear hg hat hbl hbm hi hE f0 f1 f3
  generalize us[i].key = key at *
  clear hlt
  generalize us.length = N at *
  generalize lastF (us.map nkOf) key = lf at *
  obtain ⟨m, n, rfl⟩ : ∃ m n, lf = some (m, n) := by
    cases lf with
    | none => exact (hno rfl).elim
    | some x => exact ⟨x.1, x.2, rfl⟩
  clear hno
  obtain ⟨j, hj⟩ : ∃ j : Nat, E[j]? = some (.string (strOf key), .int .i64 (m : Nat)) := by
    rcases hlk with ⟨h, _⟩ | ⟨j, m', n', h, hj⟩
    · cases h
    · simp only [Option.some.injEq, Prod.mk.injEq] at h
      obtain ⟨rfl, rfl⟩ := h
      exact ⟨j, hj⟩
  clear hlk
  have hlook : ∀ W, Ext w W → (Instr.lookup 39 (.map (some b)) (.string (strOf key)) false).run Try.prog W = .ok (.int .i64 (m : Nat)) W := fun W hx => by
    have hm' := hm.ext hx
    rcases hm'.look (z := .int .i64 0) Try.underlying39 Try.underlying9 (by kernel_rfl) (key := .string (strOf key)) trivial with ⟨h, _⟩ | ⟨j', v, h1, h2, _⟩
    · exact absurd rfl (h _ (List.mem_of_getElem? hj))
    · rw [nodup_at hm'.keys.2 h1 hj] at h2; exact h2
  have HL := Lib.hid hlook
  clear hlook hm hj
  have hmi : decide (Option.map (·.1) (some (m, n)) ≠ some i) = decide (m ≠ i) := by simp
  rw [hmi]
  clear hmi
  have hne : (key == []) = key.isEmpty := by cases key <;> rfl
  have hne2 : (!(key == [])) = !key.isEmpty := by rw [hne]
  go_enter Try.func47, Try.ntmps47
  cases hk : key.isEmpty with
  | true =>
    have hke : key = [] := List.isEmpty_iff.1 hk
    subst hke
    clear hne hne2 hk
    go_upto_region 1 with fail
    refine wp_region_facts [Fact.eq (.slice (some ⟨B, o, none⟩) N cap),
        Fact.eq (.int .i64 i),
        Fact.eq (.pointer (some ⟨B, o + i * 4, none⟩)),
        Fact.eq (.pointer (some ⟨B, o + i * 4 + 2, none⟩)),
        Fact.eq (.pointer (some ⟨B, o + i * 4 + 2, none⟩)),
        Fact.eq (.string (strOf [])),
        Fact.eq (.bool false),
        Fact.eq (.bool false),
        Fact.eq undef,
        Fact.eq undef,
        Fact.eq undef,
        Fact.eq undef,
        Fact.eq undef,
        Fact.eq undef,
        Fact.eq undef,
        Fact.eq undef,
        Fact.eq undef,
        Fact.eq undef,
        Fact.eq (.bool false),
        Fact.eq (.bool false)]
      [[], [], [(0, 5), (1, 6)], [(2, 7)], [(3, 8)], [(4, 9)], [(5, 10)], [(6, 11)], [(7, 12)], [(7, 12)], [(7, 12)], [(9, 14), (10, 15), (7, 12)], [(11, 16), (7, 12)], [(12, 17), (7, 12)], [(13, 18), (7, 12)], [(8, 13), (14, 19), (7, 12)], [(7, 12)], [(15, 20), (16, 21), (7, 12)], [(7, 12), (17, 22)], [(18, 23)]]
      [(0, 5), (1, 6), (2, 7), (3, 8), (4, 9), (5, 10), (6, 11), (7, 12), (8, 13), (9, 14), (10, 15), (11, 16), (12, 17), (13, 18), (14, 19), (15, 20), (16, 21), (17, 22), (18, 23), (19, 4)] (by kernel_rfl) (by kernel_rfl) ?_ ?_
    · refine ⟨?_, ?_, ?_, ?_, ?_, ?_, ?_, ?_, ?_, ?_, ?_, ?_, ?_, ?_, ?_, ?_, ?_, ?_, ?_, ?_, trivial⟩
      · intro w1 hx1; change wpList _ _ _ _ _ _; have m0 := hx1.cell ml; go_wp2_with fail; exact ⟨rfl, Ext.refl _, rfl, rfl⟩
      · intro w1 hx1; change wpList _ _ _ _ _ _; exact ob_move rfl rfl rfl rfl rfl
      · intro w1 hx1; rintro _ rfl; rintro _ rfl; change wpList _ _ _ _ _ _; go_wp2_with fail; exact ⟨rfl, Ext.refl _, rfl, rfl⟩
      · intro w1 hx1; rintro _ rfl; change wpList _ _ _ _ _ _; go_wp2_with fail; exact ⟨rfl, Ext.refl _, rfl, rfl⟩
      · intro w1 hx1; rintro _ rfl; change wpList _ _ _ _ _ _; go_wp2_with fail; exact ⟨rfl, Ext.refl _, rfl, rfl⟩
      · intro w1 hx1; rintro _ rfl; change wpList _ _ _ _ _ _; have m0 := hx1.cell f2; go_wp2_with fail; exact ⟨rfl, Ext.refl _, rfl, rfl⟩
      · intro w1 hx1; rintro _ rfl; change wpList _ _ _ _ _ _; go_wp2_with fail; exact ⟨rfl, Ext.refl _, rfl, rfl⟩
      · intro w1 hx1; rintro _ rfl; change wpList _ _ _ _ _ _; exact ob_move rfl rfl rfl rfl rfl
      · intro w1 hx1; rintro _ rfl; change wpList _ _ _ _ _ _; exact ob_skip rfl rfl rfl rfl
      · intro w1 hx1; rintro _ rfl; change wpList _ _ _ _ _ _; exact ob_skip rfl rfl rfl rfl
      · intro w1 hx1; rintro _ rfl; change wpList _ _ _ _ _ _; exact ob_skip rfl rfl rfl rfl
      · intro w1 hx1; rintro _ rfl; rintro _ rfl; rintro _ rfl; change wpList _ _ _ _ _ _; exact ob_skip rfl rfl rfl rfl
      · intro w1 hx1; rintro _ rfl; rintro _ rfl; change wpList _ _ _ _ _ _; exact ob_skip rfl rfl rfl rfl
      · intro w1 hx1; rintro _ rfl; rintro _ rfl; change wpList _ _ _ _ _ _; exact ob_skip rfl rfl rfl rfl
      · intro w1 hx1; rintro _ rfl; rintro _ rfl; change wpList _ _ _ _ _ _; exact ob_skip rfl rfl rfl rfl
      · intro w1 hx1; rintro _ rfl; rintro _ rfl; rintro _ rfl; change wpList _ _ _ _ _ _; exact ob_skip rfl rfl rfl rfl
      · intro w1 hx1; rintro _ rfl; change wpList _ _ _ _ _ _; exact ob_skip rfl rfl rfl rfl
      · intro w1 hx1; rintro _ rfl; rintro _ rfl; rintro _ rfl; change wpList _ _ _ _ _ _; exact ob_skip rfl rfl rfl rfl
      · intro w1 hx1; rintro _ rfl; rintro _ rfl; change wpList _ _ _ _ _ _; exact ob_pick rfl rfl rfl rfl rfl rfl
      · intro w1 hx1; rintro _ rfl; change wpList _ _ _ _ _ _; exact ob_assign rfl rfl rfl rfl rfl
    · intro w1 hx1; rintro _ rfl; rintro _ rfl; rintro _ rfl; rintro _ rfl; rintro _ rfl; rintro _ rfl; rintro _ rfl; rintro _ rfl; rintro _ rfl; rintro _ rfl; rintro _ rfl; rintro _ rfl; rintro _ rfl; rintro _ rfl; rintro _ rfl; rintro _ rfl; rintro _ rfl; rintro _ rfl; rintro _ rfl; rintro _ rfl; refine depsThen_nil ?_; dsimp only; simp only [Act.put, List.setIfInBounds_toArray, List.set_cons_zero, List.set_cons_succ]
      go_wp2_with fail
      go_ret
      exact ⟨rfl, hx1⟩
  | false =>
    have hkb : (key == []) = false := by rw [hne]; exact hk
    clear hne hne2 hk
    go_upto_region 1 with fail
    refine wp_region_facts [Fact.eq (.slice (some ⟨B, o, none⟩) N cap),
        Fact.eq (.int .i64 i),
        Fact.eq (.pointer (some ⟨B, o + i * 4, none⟩)),
        Fact.eq (.pointer (some ⟨B, o + i * 4 + 2, none⟩)),
        Fact.eq (.pointer (some ⟨B, o + i * 4 + 2, none⟩)),
        Fact.eq (.string (strOf key)),
        Fact.eq (.bool true),
        Fact.eq (.bool true),
        Fact.eq (.map (some b)),
        Fact.eq (.slice (some ⟨B, o, none⟩) N cap),
        Fact.eq (.int .i64 i),
        Fact.eq (.pointer (some ⟨B, o + i * 4, none⟩)),
        Fact.eq (.pointer (some ⟨B, o + i * 4 + 2, none⟩)),
        Fact.eq (.pointer (some ⟨B, o + i * 4 + 2, none⟩)),
        Fact.eq (.string (strOf key)),
        Fact.eq (.int .i64 (m : Nat)),
        Fact.eq (.int .i64 i),
        Fact.eq (.bool (decide (m ≠ i))),
        Fact.eq (.bool (decide (m ≠ i))),
        Fact.eq (.bool (decide (m ≠ i)))]
      [[], [], [(0, 5), (1, 6)], [(2, 7)], [(3, 8)], [(4, 9)], [(5, 10)], [(6, 11)], [(7, 12)], [(7, 12)], [(7, 12)], [(9, 14), (10, 15), (7, 12)], [(11, 16), (7, 12)], [(12, 17), (7, 12)], [(13, 18), (7, 12)], [(8, 13), (14, 19), (7, 12)], [(7, 12)], [(15, 20), (16, 21), (7, 12)], [(7, 12), (17, 22)], [(18, 23)]]
      [(0, 5), (1, 6), (2, 7), (3, 8), (4, 9), (5, 10), (6, 11), (7, 12), (8, 13), (9, 14), (10, 15), (11, 16), (12, 17), (13, 18), (14, 19), (15, 20), (16, 21), (17, 22), (18, 23), (19, 4)] (by kernel_rfl) (by kernel_rfl) ?_ ?_
    · refine ⟨?_, ?_, ?_, ?_, ?_, ?_, ?_, ?_, ?_, ?_, ?_, ?_, ?_, ?_, ?_, ?_, ?_, ?_, ?_, ?_, trivial⟩
      · intro w1 hx1; change wpList _ _ _ _ _ _; have m0 := hx1.cell ml; go_wp2_with fail; exact ⟨rfl, Ext.refl _, rfl, rfl⟩
      · intro w1 hx1; change wpList _ _ _ _ _ _; exact ob_move rfl rfl rfl rfl rfl
      · intro w1 hx1; rintro _ rfl; rintro _ rfl; change wpList _ _ _ _ _ _; go_wp2_with fail; exact ⟨rfl, Ext.refl _, rfl, rfl⟩
      · intro w1 hx1; rintro _ rfl; change wpList _ _ _ _ _ _; go_wp2_with fail; exact ⟨rfl, Ext.refl _, rfl, rfl⟩
      · intro w1 hx1; rintro _ rfl; change wpList _ _ _ _ _ _; go_wp2_with fail; exact ⟨rfl, Ext.refl _, rfl, rfl⟩
      · intro w1 hx1; rintro _ rfl; change wpList _ _ _ _ _ _; have m0 := hx1.cell f2; go_wp2_with fail; exact ⟨rfl, Ext.refl _, rfl, rfl⟩
      · intro w1 hx1; rintro _ rfl; change wpList _ _ _ _ _ _; go_wp2_with fail; exact ⟨rfl, Ext.refl _, rfl, rfl⟩
      · intro w1 hx1; rintro _ rfl; change wpList _ _ _ _ _ _; exact ob_move rfl rfl rfl rfl rfl
      · intro w1 hx1; rintro _ rfl; change wpList _ _ _ _ _ _; have m0 := hx1.cell mm; go_wp2_with fail; exact ⟨rfl, Ext.refl _, rfl, rfl⟩
      · intro w1 hx1; rintro _ rfl; change wpList _ _ _ _ _ _; have m0 := hx1.cell ml; go_wp2_with fail; exact ⟨rfl, Ext.refl _, rfl, rfl⟩
      · intro w1 hx1; rintro _ rfl; change wpList _ _ _ _ _ _; exact ob_move rfl rfl rfl rfl rfl
      · intro w1 hx1; rintro _ rfl; rintro _ rfl; rintro _ rfl; change wpList _ _ _ _ _ _; go_wp2_with fail; exact ⟨rfl, Ext.refl _, rfl, rfl⟩
      · intro w1 hx1; rintro _ rfl; rintro _ rfl; change wpList _ _ _ _ _ _; go_wp2_with fail; exact ⟨rfl, Ext.refl _, rfl, rfl⟩
      · intro w1 hx1; rintro _ rfl; rintro _ rfl; change wpList _ _ _ _ _ _; go_wp2_with fail; exact ⟨rfl, Ext.refl _, rfl, rfl⟩
      · intro w1 hx1; rintro _ rfl; rintro _ rfl; change wpList _ _ _ _ _ _; have m0 := hx1.cell f2; go_wp2_with fail; exact ⟨rfl, Ext.refl _, rfl, rfl⟩
      · intro w1 hx1; rintro _ rfl; rintro _ rfl; rintro _ rfl; change wpList _ _ _ _ _ _; refine wpList_lookW (.tmp 13) (.tmp 19) 39 false rfl rfl rfl rfl (HL.out w1 hx1) ?_; exact wpList_nil ⟨rfl, Ext.refl _, rfl, rfl⟩
      · intro w1 hx1; rintro _ rfl; change wpList _ _ _ _ _ _; exact ob_move rfl rfl rfl rfl rfl
      · intro w1 hx1; rintro _ rfl; rintro _ rfl; rintro _ rfl; change wpList _ _ _ _ _ _; by_cases hd : m = i; (subst hd; go_wp2_with fail; exact ⟨rfl, Ext.refl _, rfl, (by show Value.bool _ = Value.bool _; first | rfl | simp)⟩); (have hd2 : ¬ (m : Int) = (i : Int) := (by omega); go_wp2_with fail; exact ⟨rfl, Ext.refl _, rfl, (by show Value.bool _ = Value.bool _; exact congrArg Value.bool (bne_iff_ne.2 hd2))⟩)
      · intro w1 hx1; rintro _ rfl; rintro _ rfl; change wpList _ _ _ _ _ _; exact ob_pick rfl rfl rfl rfl rfl rfl
      · intro w1 hx1; rintro _ rfl; change wpList _ _ _ _ _ _; exact ob_assign rfl rfl rfl rfl rfl
    · intro w1 hx1; rintro _ rfl; rintro _ rfl; rintro _ rfl; rintro _ rfl; rintro _ rfl; rintro _ rfl; rintro _ rfl; rintro _ rfl; rintro _ rfl; rintro _ rfl; rintro _ rfl; rintro _ rfl; rintro _ rfl; rintro _ rfl; rintro _ rfl; rintro _ rfl; rintro _ rfl; rintro _ rfl; rintro _ rfl; rintro _ rfl; refine depsThen_nil ?_; dsimp only; simp only [Act.put, List.setIfInBounds_toArray, List.set_cons_zero, List.set_cons_succ]
      go_wp2_with fail
      go_ret
      exact ⟨by simp, hx1⟩
end Go.Proofs.Ytlgopjfnknjgjaa
