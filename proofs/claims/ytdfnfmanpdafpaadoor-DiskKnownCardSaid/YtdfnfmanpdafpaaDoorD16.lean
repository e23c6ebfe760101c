/- Disk: bytes cloned, compared, taken as one's own; New, Quota, Fuse. -/
import Derived.Test.YtdfnfmanpdafpaaDoorD15
namespace Go.Proofs.YtdfnfmanpdafpaaDoor
open Go.RowKit Go.MapKept

@[go_sem] theorem eql_nilB (w : World) (a : Option Addr) (n c : Nat) : (binOp .eql 24 (.slice a n c) (.slice none 0 0)).run Tryd.prog w = .ok (.bool a.isNone) w := by
  cases a <;> kernel_rfl
def OwnU (w : World) (base : Nat) (v : Value) (l : List UInt8) : Prop := w.ownsRow base 5 1 v l.length (bV l)
theorem OwnU.bytes {w : World} {base : Nat} {v : Value} {l : List UInt8} (h : OwnU w base v l) : Bytes w v l := Row.of_own h
theorem OwnU.ext {w w' : World} {base : Nat} {v : Value} {l : List UInt8} (h : OwnU w base v l) (hx : Ext w w') : OwnU w' base v l := own_ext h hx
theorem OwnU.shape {w : World} {base : Nat} {v : Value} {l : List UInt8} (h : OwnU w base v l) : ∃ a cap, v = .slice a l.length cap ∧ l.length ≤ cap ∧ cap ≤ maxLen := own_shape h
theorem OwnU.nil (w : World) (base : Nat) : OwnU w base (.slice none 0 0) [] := own_none w base _ 1
theorem OwnU.empty (w : World) (base : Nat) (hb : base ≤ w.heap.size) : OwnU (w.alloc (.cells #[] 5)) base (.slice (some ⟨w.heap.size, 0, none⟩) 0 0) [] :=
  ⟨by simp [bV], .inr ⟨w.heap.size, 0, #[], rfl, hb, heap_alloc_new w _, Nat.le_refl _, by unfold maxLen; omega, rfl, rfl⟩⟩
theorem nil_bytes {w : World} {n cap : Nat} {l : List UInt8} (h : Bytes w (.slice none n cap) l) : l = [] ∧ n = 0 := by
  obtain ⟨h1, a, c, e, h3, h4, h5, h6, h7⟩ := h
  simp only [Value.slice.injEq] at e
  obtain ⟨rfl, rfl, rfl⟩ := e
  have := h5 rfl
  have h0 : l.length = 0 := by omega
  exact ⟨List.eq_nil_of_length_eq_zero h0, h0⟩
set_option maxRecDepth 100000 in
set_option maxHeartbeats 4000000 in
theorem bclone_dk (w : World) (v : Value) (l : List UInt8) (hl : Bytes w v l) (hn : l.length ≤ 140737488355328) :
    Calls Tryd.prog 35 #[v] w fun e w' => ∃ v', e = .returned v' ∧ OwnU w' w.heap.size v' l ∧ Ext w w' := by
  obtain ⟨a, cap, rfl, hc, hm⟩ := hl.shape
  have HM := Lib.hid hm
  cases a with
  | none =>
    obtain ⟨rfl, -⟩ := nil_bytes hl
    clear hl hm
    go_enter Tryd.func35, Tryd.ntmps35
    go_wp2_with fail
    go_ret
    exact ⟨_, rfl, OwnU.nil _ _, Ext.refl w⟩
  | some p =>
    have hx0 : Ext w (w.alloc (.cells #[] 5)) := (Ext.refl w).alloc _
    have hl1 : Row _ 1 _ l.length (bV l) := hl.ext hx0
    have ho := OwnU.empty w w.heap.size (Nat.le_refl _)
    have hb1 : (0 + l.length) * 1 ≤ 140737488355328 := by omega
    have hb2 : 0 + l.length ≤ maxLen := by unfold maxLen; omega
    have HL := Lib.hid hl1
    have HO := Lib.hid ho
    have HX := Lib.hid hx0
    clear hl hl1 ho hx0 hm
    generalize hnl : l.length = n at *
    have HNL := Lib.hid hnl
    clear hnl
    go_enter Tryd.func35, Tryd.ntmps35
    go_wp2_with (refine wpList_append_row 24 5 (.tmp 5) (.tmp 6) rfl w.heap.size _ 1 1 Tryd.underlying24 infoU8 rfl (by decide) rfl _ 0 [] rfl HO.out n (bV l) HL.out (bV_one l) hb1 hb2 (by simp) ?_; intro v2 w2 ho2 hg2; have HO2 := Lib.hid ho2; have HG2 := Lib.hid hg2; clear ho2 hg2)
    have hown := HO2.out
    rw [Nat.zero_add, List.nil_append, ← HNL.out] at hown
    have HOW := Lib.hid hown
    obtain ⟨a2, c2, rfl, _, _⟩ := own_shape hown
    clear hown
    go_ret
    exact ⟨_, rfl, HOW.out, HX.out.grown_none (v := .slice (some ⟨w.heap.size, 0, none⟩) 0 0) HG2.out fun k hk => by simp [Value.ownBlock] at hk; omega⟩
set_option maxRecDepth 100000 in
set_option maxHeartbeats 4000000 in
theorem own03_dk (w : World) (v : Value) (l : List UInt8) (hl : Bytes w v l) (hn : l.length ≤ 140737488355328) :
    Calls Tryd.prog 29 #[v] w fun e w' => ∃ v', e = .returned v' ∧ OwnU w' w.heap.size v' l ∧ Ext w w' := by
  obtain ⟨a, cap, rfl, hc, hm⟩ := hl.shape
  have hl1 : Row w 1 _ l.length (bV l) := hl
  have hb1 : (0 + l.length) * 1 ≤ 140737488355328 := by omega
  have hb2 : 0 + l.length ≤ maxLen := by unfold maxLen; omega
  have HM := Lib.hid hm
  have HL := Lib.hid hl1
  clear hl hl1 hm
  generalize hnl : l.length = n at *
  have HNL := Lib.hid hnl
  clear hnl
  go_enter Tryd.func29, Tryd.ntmps29
  go_wp2_with (refine wpList_append_row 24 5 (.tmp 4) (.tmp 5) rfl w.heap.size _ 1 1 Tryd.underlying24 infoU8 rfl (by decide) rfl _ 0 [] rfl (own_none _ _ _ _) n (bV l) HL.out (bV_one l) hb1 hb2 (Nat.le_refl _) ?_; intro v2 w2 ho2 hg2; have HO2 := Lib.hid ho2; have HG2 := Lib.hid hg2; clear ho2 hg2)
  have hown := HO2.out
  rw [Nat.zero_add, List.nil_append, ← HNL.out] at hown
  have HOW := Lib.hid hown
  obtain ⟨a2, c2, rfl, _, _⟩ := own_shape hown
  clear hown
  go_ret
  exact ⟨_, rfl, HOW.out, (Ext.refl _).grown_none (v := .slice none 0 0) HG2.out fun k hk => by simp [Value.ownBlock] at hk⟩
set_option maxRecDepth 100000 in
set_option maxHeartbeats 4000000 in
theorem beq_dk (w : World) (v u : Value) (l m : List UInt8) (hl : Bytes w v l) (hm : Bytes w u m) :
    Calls Tryd.prog 14 #[v, u] w fun e w' => e = .returned (.bool (l == m)) ∧ w' = w := by
  have r1 : (convert 24 9 v).run Tryd.prog w = .ok (.string (strOf l)) w := run_bytes_str w _ _ _ Tryd.underlying24 Tryd.underlying5 Tryd.underlying9 hl
  have r2 : (convert 24 9 u).run Tryd.prog w = .ok (.string (strOf m)) w := run_bytes_str w _ _ _ Tryd.underlying24 Tryd.underlying5 Tryd.underlying9 hm
  clear hl hm
  go_enter Tryd.func14, Tryd.ntmps14
  go_wp2_with fail
  go_ret
  exact ⟨rfl, rfl⟩

theorem new_okD (q : Int) (h0 : 0 ≤ q) (h1 : q ≤ 4194304) : OkD ⟨[], q, -1, false⟩ :=
  ⟨List.Pairwise.nil, fun _ h => (by cases h), fun _ h => (by cases h), Nat.zero_le _, Nat.zero_le _, h0, h1, by show (-1 : Int) ≤ -1; omega, by show (-1 : Int) < 9223372036854775808; omega⟩
set_option maxRecDepth 100000 in
set_option maxHeartbeats 4000000 in
theorem new_yesD (w : World) (q : Int) (h0 : 0 ≤ q) (h1 : q ≤ 4194304) :
    Calls Tryd.prog 6 #[.int .i64 q] w fun e w' => ∃ b F, e = .returned (.tuple #[.pointer (some ⟨b, 0, none⟩), .int .i64 0]) ∧ Dk w' b F ⟨[], q, -1, false⟩ ∧ Ext w w' ∧ ∀ k ∈ F, w.heap.size ≤ k := by
  have hmk : (Instr.makeMap 56 none).run Tryd.prog w = .ok (.map (some w.heap.size)) (w.alloc (.map #[] 0)) := run_makeMap (P := Tryd.prog) 56 w
  have d1 : decide (q < 0) = false := decide_eq_false (by omega)
  have d2 : decide (q > 4194304) = false := decide_eq_false (by omega)
  clear h0 h1
  go_enter Tryd.func6, Tryd.ntmps6
  go_wp2_with fail
  refine bodyPost_ret (v := .tuple #[.pointer (some ⟨w.heap.size + 1, 0, none⟩), .int .i64 0]) (by simp [results, Tryd.results6, go_sem]) rfl ?_
  have hx : Ext (w.alloc (.map #[] 0)) ((w.alloc (.map #[] 0)).alloc (.cells #[.map (some w.heap.size), .int .i64 q, .int .i64 (-1), .bool false] 58)) := (Ext.refl _).alloc _
  refine ⟨w.heap.size + 1, [w.heap.size + 1, w.heap.size], rfl, ⟨w.heap.size, [], ⟨?_, ⟨[], (MapE.made w .string).ext hx, List.Perm.refl _⟩, List.Pairwise.nil, fun _ h => (by cases h), List.Pairwise.nil⟩, rfl, rfl⟩, ((Ext.refl w).alloc _).trans hx, ?_⟩
  · have := heap_alloc_new (w.alloc (.map #[] 0)) (.cells #[.map (some w.heap.size), .int .i64 q, .int .i64 (-1), .bool false] 58)
    rwa [World.size_alloc] at this
  · intro k hk
    simp only [List.mem_cons, List.not_mem_nil, or_false] at hk
    omega
set_option maxRecDepth 100000 in
set_option maxHeartbeats 4000000 in
theorem new_noD (w : World) (q : Int) (h : q < 0 ∨ 4194304 < q) :
    Calls Tryd.prog 6 #[.int .i64 q] w fun e w' => e = .returned (.tuple #[.pointer none, .int .i64 1]) ∧ w' = w := by
  by_cases h0 : q < 0
  · have d1 : decide (q < 0) = true := decide_eq_true h0
    clear h h0
    go_enter Tryd.func6, Tryd.ntmps6
    go_wp2_with fail
    exact bodyPost_ret (v := .tuple #[.pointer none, .int .i64 1]) (by simp [results, Tryd.results6, go_sem]) rfl ⟨rfl, rfl⟩
  · have d1 : decide (q < 0) = false := decide_eq_false h0
    have d2 : decide (q > 4194304) = true := decide_eq_true (by omega)
    clear h h0
    go_enter Tryd.func6, Tryd.ntmps6
    go_wp2_with fail
    exact bodyPost_ret (v := .tuple #[.pointer none, .int .i64 1]) (by simp [results, Tryd.results6, go_sem]) rfl ⟨rfl, rfl⟩
end Go.Proofs.YtdfnfmanpdafpaaDoor
