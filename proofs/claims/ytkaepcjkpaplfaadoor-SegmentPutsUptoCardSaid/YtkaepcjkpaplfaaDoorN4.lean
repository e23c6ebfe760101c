/- A reader of bytes, walked: Num. -/
import Derived.Test.YtkaepcjkpaplfaaDoorN3
import Derived.Deep.LoopGhost
import Derived.Deep.DeepCutAuto
namespace Go.Proofs.YtkaepcjkpaplfaaDoor
open Go.RowKit

theorem wpList_cut0 {P : Program} {w0 : World} {ops : Array Oper} {Q : Exit → Act → World → Prop} {a : Act} {w : World} {rest : List Oper} {o : Oper}
    (t e : TypeId) (x : Operand) (lo hi : Option Operand) (size n i j : Nat) (xs : List Value)
    (ho : o.op = .slice t x lo hi none) (ht : P.underlying t = some (.slice e)) (hs : (P.info? e).map (·.size) = some size)
    (hw : Region.wanted o (yielded ops a.tmps) = true) (hx : Row w0 size (a.eval x) n xs)
    (hlo : BoundIs a lo 0 i) (hhi : BoundIs a hi n j) (hij : i ≤ j) (hj : j ≤ n)
    (h : ∀ v, Row w0 size v (j - i) ((xs.take (j * size)).drop (i * size)) → wpList P ops Q rest (a.put o.dst v) w) : wpList P ops Q (o :: rest) a w := by
  obtain ⟨hl, ad, cap, hv, hc, hm, hnil, hspot, hcell⟩ := hx
  have hi' : ∃ q, P.info? e = some q ∧ q.size = size := by
    cases hq : P.info? e with
    | none => rw [hq] at hs; cases hs
    | some q => rw [hq] at hs; exact ⟨q, rfl, by simpa using hs⟩
  obtain ⟨q, hq, hqs⟩ := hi'
  have hr : (execOp a.eval o).run P w = .ok (.value (.slice (if cap = i then ad else ad.map (·.add (i * size))) (j - i) (cap - i))) w := by
    simp [execOp, ho, Instr.sliceAt, run_underlying ht, Instr.slice, hv, run_sliceBounds_nat w a lo hi hlo hhi hij hj hc, sizeOf, typeInfo, hq, hqs]
  refine wpList_val hw hr (h _ ?_)
  refine ⟨?_, _, _, rfl, by omega, by omega, ?_, ?_, ?_⟩
  · rw [List.length_drop, List.length_take, hl, Nat.sub_mul, Nat.min_eq_left (Nat.mul_le_mul_right _ hj)]
  · intro he
    split at he
    · have := hnil he; omega
    · cases ad with
      | none => have := hnil rfl; omega
      | some p => simp at he
  · intro p hp h0
    split at hp
    · exact hspot p hp (by omega)
    · cases ad with
      | none => simp at hp
      | some p' =>
        simp at hp
        rw [← hp]
        unfold Addr.add
        split
        · exact hspot p' rfl (by omega)
        · rfl
  · intro k u hk
    rw [List.getElem?_drop, List.getElem?_take] at hk
    split at hk
    · rename_i hlt
      obtain ⟨p, hp, hcl⟩ := hcell _ _ hk
      have hne : ¬ cap = i := by
        intro he
        have : j = i := by omega
        subst this
        omega
      rw [if_neg hne, hp]
      refine ⟨p.add (i * size), rfl, ?_⟩
      have hps := hspot p hp (by omega)
      have e1 : (p.add (i * size)).block = p.block := by unfold Addr.add; split <;> rfl
      have e2 : (p.add (i * size)).off = p.off + i * size := by
        unfold Addr.add; split
        · simp_all
        · rfl
      rw [e1, e2, Nat.add_assoc]; exact hcl
    · cases hk

theorem cutB0 {w0 : World} {ops : Array Oper} {Q : Exit → Act → World → Prop} {a : Act} {w : World} {rest : List Oper} {o : Oper}
    (x : Operand) (lo hi : Option Operand) (i j : Nat) {l : List UInt8} (ho : o.op = .slice 34 x lo hi none)
    (hw : Region.wanted o (yielded ops a.tmps) = true) (hx : Bytes w0 (a.eval x) l)
    (hlo : BoundIs a lo 0 i) (hhi : BoundIs a hi l.length j) (hij : i ≤ j) (hj : j ≤ l.length)
    (h : ∀ v, Bytes w0 v ((l.take j).drop i) → wpList Tryd.prog ops Q rest (a.put o.dst v) w) : wpList Tryd.prog ops Q (o :: rest) a w :=
  wpList_cut0 34 5 x lo hi 1 l.length i j _ ho Tryd.underlying34 info5s hw hx hlo hhi hij hj fun v hv => h v (by
    unfold Bytes
    have e1 : ((l.take j).drop i).length = j - i := by simp; omega
    rw [e1]
    simpa using hv)

theorem results_tmp_cell {fn : Func} {p u : Tmp} {ty : TypeId} (h : fn.results = #[.tmp u, .cell p ty]) (tmps : Array Value) (P : Program) (w : World) :
    (results fn tmps).run P w =
      ((asAddr (tmps.getD p undef)).run P w).andThen fun a w₁ => ((loadVar ty a).run P w₁).andThen fun v w₂ => .ok (.tuple #[tmps.getD u undef, v]) w₂ := by
  simp only [results, h]
  simp [Sem.run_bind, Result.andThen]

/-- The door of Num: the deferred keep, then the results. -/
theorem door_num {R : Ending → World → Prop} {B E : Nat} {a : Option Addr} {n cap err : Nat} {x : Value} {tmps : Array Value} {vn : Value} {w : World}
    (h4 : tmps.getD 4 undef = vn) (h5 : tmps.getD 5 undef = .pointer (some ⟨E, 0, none⟩)) (hE : w.cell? ⟨E, 0, none⟩ = some (.int .i64 err)) (hB : w.cell? ⟨B, 0, none⟩ = some x) (hz : w.frozen? ⟨B, 0, none⟩ = false) (hne : E ≠ B)
    (hR : R (.returned (.tuple #[vn, .int .i64 err])) (if err = 0 then w else w.setCell ⟨B, 0, none⟩ (.slice a n cap))) :
    bodyPostD Tryd.prog Tryd.f54 R Exit.ret { tmps := tmps, defers := [{ target := Target.fn (Fn.func 65) #[], args := #[.pointer (some ⟨B, 0, none⟩), .slice a n cap, .pointer (some ⟨E, 0, none⟩)] }] } w := by
  refine leaves_cons (f := 65) (args := #[.pointer (some ⟨B, 0, none⟩), .slice a n cap, .pointer (some ⟨E, 0, none⟩)]) (by simp) (by simp [go_sem]) ?_
  refine (keep_deferred B E a n cap x err .returning w hE hB hz).mono ?_
  rintro e u' w'' ⟨rfl, rfl, rfl⟩
  refine ⟨_, ?_, hR⟩
  rw [results_tmp_cell rfl, h4, h5]
  have hE2 : (if err = 0 then w else w.setCell ⟨B, 0, none⟩ (.slice a n cap)).cell? ⟨E, 0, none⟩ = some (.int .i64 err) := by
    split
    · exact hE
    · rw [World.cell?_setCell_other _ _ _ _ (by intro e; cases e; exact hne rfl)]; exact hE
  generalize (if err = 0 then w else w.setCell ⟨B, 0, none⟩ (.slice a n cap)) = w3 at *
  simp [go_sem, hE2]

theorem wrap_u64 {x : Nat} (h : x < 18446744073709551616) : IntKind.u64.wrap (x : Int) = (x : Int) := by
  have e : IntKind.u64.wrap (x : Int) = (x : Int) % 18446744073709551616 := by simp [IntKind.wrap, IntKind.bits, IntKind.signed]
  rw [e]; omega
theorem u8_and127 (c : UInt8) : bits .and .u8 (c.toNat : Int) 127 = ((c.toNat % 128 : Nat) : Int) := by
  have := u8_and_nat c.toNat 127 (byte_lt c) (by omega)
  rw [show ((127 : Int)) = ((127 : Nat) : Int) from rfl, this]
  congr 1
  exact Nat.and_two_pow_sub_one_eq_mod c.toNat 7
theorem pow_128 (k : Nat) : 128 ^ k = 2 ^ (7 * k) := by rw [Nat.pow_mul]
theorem num_or7 {acc k : Nat} {c : UInt8} (ha : acc < 128 ^ k) (hk : k ≤ 9) (h9 : k = 9 → c.toNat ≤ 1) :
    bits .or .u64 (acc : Int) (IntKind.u64.wrap (IntKind.u64.wrap (bits .and .u8 (c.toNat : Int) 127) * 2 ^ (7 * k))) = ((acc + c.toNat % 128 * 128 ^ k : Nat) : Int) := by
  rw [u8_and127, wrap_u64 (by omega)]
  have e1 : (((c.toNat % 128 : Nat) : Int) * 2 ^ (7 * k)) = ((c.toNat % 128 * 128 ^ k : Nat) : Int) := by
    rw [pow_128]; simp
  have hlt : c.toNat % 128 * 128 ^ k < 18446744073709551616 ∧ 128 ^ k ≤ 9223372036854775808 := by
    by_cases h : k = 9
    · subst h
      have := h9 rfl
      omega
    · have h8 : (128 : Nat) ^ k ≤ 128 ^ 8 := Nat.pow_le_pow_right (by omega) (by omega)
      have h1 : c.toNat % 128 * 128 ^ k ≤ 127 * 128 ^ 8 := Nat.mul_le_mul (by omega) h8
      omega
  rw [e1, wrap_u64 hlt.1]
  rw [u64_or_nat _ _ (by omega) hlt.1]
  congr 1
  have h2 := Nat.two_pow_add_eq_or_of_lt (i := 7 * k) (b := acc) (by rw [← pow_128]; exact ha) (c.toNat % 128)
  rw [Nat.or_comm, pow_128, Nat.mul_comm (c.toNat % 128), ← h2, Nat.add_comm]

set_option maxRecDepth 100000 in
set_option maxHeartbeats 6000000 in
theorem rnum_any (w0 w : World) (B : Nat) (vl : Value) (l : List UInt8) (most : Nat) (h : Rd w0 w B vl l) (_h64 : most < 18446744073709551616) :
    Calls Tryd.prog 54 #[.pointer (some ⟨B, 0, none⟩), .int .u64 most] w fun e W => ∃ vr, e = .returned (.tuple #[.int .u64 ((vget most l).2.1 : Nat), .int .i64 ((vget most l).1 : Nat)]) ∧ Rd w0 W B vr (vget most l).2.2 := by
  obtain ⟨a, cap, rfl, hc, hm⟩ := h.bytes.shape
  unfold maxLen at hm
  have hB : B < w.heap.size := (Array.getElem?_eq_some_iff.1 h.at_).1
  have h1 := h.mono ((Ext.refl w).alloc (.cells #[.int .i64 0] 23))
  have hl1 := h1.left
  have hl2 := h1.made
  go_enter_defers Tryd.func54, Tryd.ntmps54
  go_wp2_with fail
  go_loopw [4, 6, 7] (fun n i _ wr => ∃ (k acc : Nat) (vc : Value), n = .int .u64 acc ∧ i = .int .i64 k ∧ k ≤ 9 ∧ k ≤ l.length ∧ acc < 128 ^ k ∧ Hid (vgetN 0 0 l = vgetN k acc (l.drop k)) ∧ Rd w0 wr B vc (l.drop k) ∧ Hid (wr.heap[w.heap.size]? = some (.cells #[.int .i64 0] 23 (0, 0)))) (fun _ i _ _ => 10 - (intOf i).toNat)
  case atStart => exact ⟨0, 0, _, rfl, rfl, by omega, Nat.zero_le _, by decide, rfl, h1, by show _ = _; rw [heap_alloc_new]⟩
  case round =>
    obtain ⟨k, acc, vc, rfl, rfl, hk9, hkl, hacc, hv, hr, hE⟩ := hrel
    obtain ⟨av, cv, rfl, hcv, hmv⟩ := hr.bytes.shape
    unfold maxLen at hmv
    have hleft := hr.left
    have hthaw := hr.thaw
    have hEc : wr.cell? ⟨w.heap.size, 0, none⟩ = some (.int .i64 0) := cell_of_row wr w.heap.size 0 _ _ _ hE.out
    have hEf : wr.frozen? ⟨w.heap.size, 0, none⟩ = false := by simp [World.frozen?, hE.out]
    cases hd : l.drop k with
    | nil =>
      rw [hd] at hr hv hleft
      clear hd
      have hgv : Hid (vget most l = (4, 0, l)) := by show _ = _; unfold vget; rw [hv.out]; rfl
      go_wp2_with fail
      have hr2 := hr.other (E := w.heap.size) (x := .int .i64 4) (by omega) (Nat.le_trans h.ext.size (Nat.le_refl _))
      have hr3 := hr2.set h.bytes
      rw [hgv.out]
      exact door_num (err := 4) rfl rfl (World.cell?_setCell_same _ _ _ hEc) hr2.left hr2.thaw (by omega) (by first | exact ⟨_, rfl, hr3⟩ | exact ⟨rfl, _, hr3⟩)
    | cons c r =>
      rw [hd] at hr hv hleft hcv
      have hlen : l.length = k + (r.length + 1) := by
        have := congrArg List.length hd
        simp only [List.length_drop, List.length_cons] at this
        omega
      have hdr : Hid (l.drop (k + 1) = r) := by show _ = _; rw [← List.drop_drop, hd]; rfl
      clear hd
      obtain ⟨b, o, x, rfl, hx, hcell⟩ := Bytes.get hr.bytes (k := 0) (by simp)
      obtain rfl : c = x := by simpa using hx
      clear hx
      have hcell' := hr.ext.cell hcell
      have hcb := byte_lt c
      simp only [List.length_cons, Nat.add_zero] at hleft hcell' hcv
      have hEset : ∀ (v : Value), (wr.setCell ⟨B, 0, none⟩ v).cell? ⟨w.heap.size, 0, none⟩ = some (.int .i64 0) := fun v => by
        rw [World.cell?_setCell_other _ _ _ _ (by intro e; cases e; omega)]; exact hEc
      have hEfr : ∀ (v : Value), (wr.setCell ⟨B, 0, none⟩ v).frozen? ⟨w.heap.size, 0, none⟩ = false := fun v => by simp [hEf]
      by_cases hA : k = 9 ∧ 1 < c.toNat
      · obtain ⟨rfl, hA2⟩ := hA
        have hgv : Hid (vget most l = (5, 0, l)) := by
          have e : vgetN 9 acc (c :: r) = (5, 0, []) := by unfold vgetN; rw [if_pos (.inl ⟨rfl, hA2⟩)]
          show _ = _; unfold vget; rw [hv.out, e]; rfl
        have hd1 : decide ((1 : Int) < (c.toNat : Int)) = true := decide_eq_true (by omega)
        clear hlen
        go_wp2_with (refine cutB0 (.tmp 40) (some (.const (.int .i64 1))) none 1 (r.length + 1) rfl rfl hr.bytes ⟨_, _, rfl, by decide, rfl⟩ rfl (by omega) (by simp) ?_; intro v41 h41; rw [List.take_of_length_le (by simp)] at h41; replace h41 : Bytes w0 v41 r := h41; obtain ⟨a41, c41, rfl, -, -⟩ := h41.shape)
        have hr2 := (hr.set h41).other (E := w.heap.size) (x := .int .i64 5) (by omega) h.ext.size
        have hr3 := hr2.set h.bytes
        rw [hgv.out]
        exact door_num (err := 5) rfl rfl (World.cell?_setCell_same _ _ _ (hEset _)) hr2.left hr2.thaw (by omega) (by first | exact ⟨_, rfl, hr3⟩ | exact ⟨rfl, _, hr3⟩)
      by_cases hB0 : 0 < k ∧ c.toNat = 0
      · obtain ⟨hk0, hc0⟩ := hB0
        have hgv : Hid (vget most l = (5, 0, l)) := by
          have e : vgetN k acc (c :: r) = (5, 0, []) := by unfold vgetN; rw [if_pos (.inr ⟨hk0, hc0⟩)]
          show _ = _; unfold vget; rw [hv.out, e]; rfl
        have hd1 : decide ((1 : Int) < (c.toNat : Int)) = false := decide_eq_false (by omega)
        have hd2 : decide ((0 : Int) < (k : Int)) = true := decide_eq_true (by omega)
        have hd2n : decide (0 < k) = true := decide_eq_true (by omega)
        have hd3 : ((c.toNat : Int) == 0) = true := beq_iff_eq.2 (by omega)
        clear hlen
        by_cases h9 : k = 9
        · subst h9
          clear hd2 hd2n
          go_wp2_with (refine cutB0 (.tmp 40) (some (.const (.int .i64 1))) none 1 (r.length + 1) rfl rfl hr.bytes ⟨_, _, rfl, by decide, rfl⟩ rfl (by omega) (by simp) ?_; intro v41 h41; rw [List.take_of_length_le (by simp)] at h41; replace h41 : Bytes w0 v41 r := h41; obtain ⟨a41, c41, rfl, -, -⟩ := h41.shape)
          have hr2 := (hr.set h41).other (E := w.heap.size) (x := .int .i64 5) (by omega) h.ext.size
          have hr3 := hr2.set h.bytes
          rw [hgv.out]
          exact door_num (err := 5) rfl rfl (World.cell?_setCell_same _ _ _ (hEset _)) hr2.left hr2.thaw (by omega) (by first | exact ⟨_, rfl, hr3⟩ | exact ⟨rfl, _, hr3⟩)
        · have hd4 : ((k : Int) == 9) = false := beq_eq_false_iff_ne.2 (by omega)
          go_wp2_with (refine cutB0 (.tmp 40) (some (.const (.int .i64 1))) none 1 (r.length + 1) rfl rfl hr.bytes ⟨_, _, rfl, by decide, rfl⟩ rfl (by omega) (by simp) ?_; intro v41 h41; rw [List.take_of_length_le (by simp)] at h41; replace h41 : Bytes w0 v41 r := h41; obtain ⟨a41, c41, rfl, -, -⟩ := h41.shape)
          have hr2 := (hr.set h41).other (E := w.heap.size) (x := .int .i64 5) (by omega) h.ext.size
          have hr3 := hr2.set h.bytes
          rw [hgv.out]
          exact door_num (err := 5) rfl rfl (World.cell?_setCell_same _ _ _ (hEset _)) hr2.left hr2.thaw (by omega) (by first | exact ⟨_, rfl, hr3⟩ | exact ⟨rfl, _, hr3⟩)
      have hgood : Hid (vgetN k acc (c :: r) = if c.toNat < 128 then (0, acc + c.toNat * 128 ^ k, r) else vgetN (k + 1) (acc + (c.toNat - 128) * 128 ^ k) r) := by
        show _ = _; conv => lhs; unfold vgetN
        rw [if_neg (by rintro (h | h); exact hA h; exact hB0 h)]
      have hor := Lib.hid (num_or7 (c := c) hacc hk9 (fun e => by omega))
      have hp := pow_128 k
      by_cases hsm : c.toNat < 128
      · have hgv : Hid (vget most l = if most < acc + c.toNat % 128 * 128 ^ k then (3, 0, l) else (0, acc + c.toNat % 128 * 128 ^ k, r)) := by
          show _ = _; unfold vget; rw [hv.out, hgood.out, if_pos hsm, Nat.mod_eq_of_lt hsm]; rfl
        have hd1 : decide ((c.toNat : Int) < 128) = true := decide_eq_true (by omega)
        clear hlen hp hgood
        by_cases h9 : k = 9
        · have hd0 : ((k : Int) == 9) = true := beq_iff_eq.2 (by omega)
          have hd2 : decide ((0 : Int) < (k : Int)) = true := decide_eq_true (by omega)
          have hd2n : decide (0 < k) = true := decide_eq_true (by omega)
          have hd4 : decide ((1 : Int) < (c.toNat : Int)) = false := decide_eq_false (by omega)
          have hd3 : ((c.toNat : Int) == 0) = false := beq_eq_false_iff_ne.2 (by omega)
          clear h9
          go_upto_region 14 with (refine cutB0 (.tmp 40) (some (.const (.int .i64 1))) none 1 (r.length + 1) rfl rfl hr.bytes ⟨_, _, rfl, by decide, rfl⟩ rfl (by omega) (by simp) ?_; intro v41 h41; rw [List.take_of_length_le (by simp)] at h41; replace h41 : Bytes w0 v41 r := h41; obtain ⟨a41, c41, rfl, -, -⟩ := h41.shape)
          rw [hor.out]
          clear hor
          by_cases hmost : most < acc + c.toNat % 128 * 128 ^ k
          · rw [if_pos hmost] at hgv
            have hd9 : decide ((most : Int) < ((acc + c.toNat % 128 * 128 ^ k : Nat) : Int)) = true := decide_eq_true (by omega)
            generalize acc + c.toNat % 128 * 128 ^ k = nv at *
            go_wp2_with fail
            have hr2 := (hr.set h41).other (E := w.heap.size) (x := .int .i64 3) (by omega) h.ext.size
            have hr3 := hr2.set h.bytes
            rw [hgv.out]
            exact door_num (err := 3) rfl rfl (World.cell?_setCell_same _ _ _ (hEset _)) hr2.left hr2.thaw (by omega) (by first | exact ⟨_, rfl, hr3⟩ | exact ⟨rfl, _, hr3⟩)
          · rw [if_neg hmost] at hgv
            have hd9 : decide ((most : Int) < ((acc + c.toNat % 128 * 128 ^ k : Nat) : Int)) = false := decide_eq_false (by omega)
            generalize acc + c.toNat % 128 * 128 ^ k = nv at *
            go_wp2_with fail
            have hr2 := (hr.set h41).other (E := w.heap.size) (x := .int .i64 0) (by omega) h.ext.size
            rw [hgv.out]
            exact door_num (err := 0) rfl rfl (World.cell?_setCell_same _ _ _ (hEset _)) hr2.left hr2.thaw (by omega) (by first | exact ⟨_, rfl, hr2⟩ | exact ⟨rfl, _, hr2⟩)
        by_cases hk0 : k = 0
        · have hd0 : ((k : Int) == 9) = false := beq_eq_false_iff_ne.2 (by omega)
          have hd2 : decide ((0 : Int) < (k : Int)) = false := decide_eq_false (by omega)
          have hd2n : decide (0 < k) = false := decide_eq_false (by omega)
          clear hk0
          go_upto_region 14 with (refine cutB0 (.tmp 40) (some (.const (.int .i64 1))) none 1 (r.length + 1) rfl rfl hr.bytes ⟨_, _, rfl, by decide, rfl⟩ rfl (by omega) (by simp) ?_; intro v41 h41; rw [List.take_of_length_le (by simp)] at h41; replace h41 : Bytes w0 v41 r := h41; obtain ⟨a41, c41, rfl, -, -⟩ := h41.shape)
          rw [hor.out]
          clear hor
          by_cases hmost : most < acc + c.toNat % 128 * 128 ^ k
          · rw [if_pos hmost] at hgv
            have hd9 : decide ((most : Int) < ((acc + c.toNat % 128 * 128 ^ k : Nat) : Int)) = true := decide_eq_true (by omega)
            generalize acc + c.toNat % 128 * 128 ^ k = nv at *
            go_wp2_with fail
            have hr2 := (hr.set h41).other (E := w.heap.size) (x := .int .i64 3) (by omega) h.ext.size
            have hr3 := hr2.set h.bytes
            rw [hgv.out]
            exact door_num (err := 3) rfl rfl (World.cell?_setCell_same _ _ _ (hEset _)) hr2.left hr2.thaw (by omega) (by first | exact ⟨_, rfl, hr3⟩ | exact ⟨rfl, _, hr3⟩)
          · rw [if_neg hmost] at hgv
            have hd9 : decide ((most : Int) < ((acc + c.toNat % 128 * 128 ^ k : Nat) : Int)) = false := decide_eq_false (by omega)
            generalize acc + c.toNat % 128 * 128 ^ k = nv at *
            go_wp2_with fail
            have hr2 := (hr.set h41).other (E := w.heap.size) (x := .int .i64 0) (by omega) h.ext.size
            rw [hgv.out]
            exact door_num (err := 0) rfl rfl (World.cell?_setCell_same _ _ _ (hEset _)) hr2.left hr2.thaw (by omega) (by first | exact ⟨_, rfl, hr2⟩ | exact ⟨rfl, _, hr2⟩)
        · have hd0 : ((k : Int) == 9) = false := beq_eq_false_iff_ne.2 (by omega)
          have hd2 : decide ((0 : Int) < (k : Int)) = true := decide_eq_true (by omega)
          have hd2n : decide (0 < k) = true := decide_eq_true (by omega)
          have hd3 : ((c.toNat : Int) == 0) = false := beq_eq_false_iff_ne.2 (by omega)
          go_upto_region 14 with (refine cutB0 (.tmp 40) (some (.const (.int .i64 1))) none 1 (r.length + 1) rfl rfl hr.bytes ⟨_, _, rfl, by decide, rfl⟩ rfl (by omega) (by simp) ?_; intro v41 h41; rw [List.take_of_length_le (by simp)] at h41; replace h41 : Bytes w0 v41 r := h41; obtain ⟨a41, c41, rfl, -, -⟩ := h41.shape)
          rw [hor.out]
          clear hor
          by_cases hmost : most < acc + c.toNat % 128 * 128 ^ k
          · rw [if_pos hmost] at hgv
            have hd9 : decide ((most : Int) < ((acc + c.toNat % 128 * 128 ^ k : Nat) : Int)) = true := decide_eq_true (by omega)
            generalize acc + c.toNat % 128 * 128 ^ k = nv at *
            go_wp2_with fail
            have hr2 := (hr.set h41).other (E := w.heap.size) (x := .int .i64 3) (by omega) h.ext.size
            have hr3 := hr2.set h.bytes
            rw [hgv.out]
            exact door_num (err := 3) rfl rfl (World.cell?_setCell_same _ _ _ (hEset _)) hr2.left hr2.thaw (by omega) (by first | exact ⟨_, rfl, hr3⟩ | exact ⟨rfl, _, hr3⟩)
          · rw [if_neg hmost] at hgv
            have hd9 : decide ((most : Int) < ((acc + c.toNat % 128 * 128 ^ k : Nat) : Int)) = false := decide_eq_false (by omega)
            generalize acc + c.toNat % 128 * 128 ^ k = nv at *
            go_wp2_with fail
            have hr2 := (hr.set h41).other (E := w.heap.size) (x := .int .i64 0) (by omega) h.ext.size
            rw [hgv.out]
            exact door_num (err := 0) rfl rfl (World.cell?_setCell_same _ _ _ (hEset _)) hr2.left hr2.thaw (by omega) (by first | exact ⟨_, rfl, hr2⟩ | exact ⟨rfl, _, hr2⟩)
      · have hk8 : k < 9 := by omega
        have hd0 : ((k : Int) == 9) = false := beq_eq_false_iff_ne.2 (by omega)
        have hd1 : decide ((c.toNat : Int) < 128) = false := decide_eq_false (by omega)
        have hd3 : ((c.toNat : Int) == 0) = false := beq_eq_false_iff_ne.2 (by omega)
        have hnext : Hid (vgetN 0 0 l = vgetN (k + 1) (acc + c.toNat % 128 * 128 ^ k) (l.drop (k + 1))) := by
          show _ = _
          rw [hv.out, hgood.out, if_neg hsm, show c.toNat - 128 = c.toNat % 128 by omega, hdr.out]
        have hp1 : acc + c.toNat % 128 * 128 ^ k < 128 ^ (k + 1) := by
          have h1 : c.toNat % 128 * 128 ^ k ≤ 127 * 128 ^ k := Nat.mul_le_mul_right _ (by omega)
          rw [Nat.pow_succ]; omega
        have hkl1 : k + 1 ≤ l.length := by omega
        clear hlen hp hgood
        by_cases hk0 : k = 0
        · have hd2 : decide ((0 : Int) < (k : Int)) = false := decide_eq_false (by omega)
          have hd2n : decide (0 < k) = false := decide_eq_false (by omega)
          clear hk0
          go_wp2_with (refine cutB0 (.tmp 40) (some (.const (.int .i64 1))) none 1 (r.length + 1) rfl rfl hr.bytes ⟨_, _, rfl, by decide, rfl⟩ rfl (by omega) (by simp) ?_; intro v41 h41; rw [List.take_of_length_le (by simp)] at h41; replace h41 : Bytes w0 v41 r := h41; obtain ⟨a41, c41, rfl, -, -⟩ := h41.shape)
          rw [hor.out]
          go_roundw
          case rel => exact ⟨k + 1, _, _, rfl, by go_num, hk8, hkl1, hp1, hnext, by rw [hdr.out]; exact hr.set h41, by show _ = _; rw [Below.heap_setCell _ _ _ _ (by simp; omega)]; exact hE.out⟩
          case measure => simp [intOf]; omega
        · have hd2 : decide ((0 : Int) < (k : Int)) = true := decide_eq_true (by omega)
          have hd2n : decide (0 < k) = true := decide_eq_true (by omega)
          go_wp2_with (refine cutB0 (.tmp 40) (some (.const (.int .i64 1))) none 1 (r.length + 1) rfl rfl hr.bytes ⟨_, _, rfl, by decide, rfl⟩ rfl (by omega) (by simp) ?_; intro v41 h41; rw [List.take_of_length_le (by simp)] at h41; replace h41 : Bytes w0 v41 r := h41; obtain ⟨a41, c41, rfl, -, -⟩ := h41.shape)
          rw [hor.out]
          go_roundw
          case rel => exact ⟨k + 1, _, _, rfl, by go_num, hk8, hkl1, hp1, hnext, by rw [hdr.out]; exact hr.set h41, by show _ = _; rw [Below.heap_setCell _ _ _ _ (by simp; omega)]; exact hE.out⟩
          case measure => simp [intOf]; omega

end Go.Proofs.YtkaepcjkpaplfaaDoor
