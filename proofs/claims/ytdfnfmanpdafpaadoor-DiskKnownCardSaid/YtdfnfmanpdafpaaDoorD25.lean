/- Disk: the law is awake. -/
import Derived.Test.YtdfnfmanpdafpaaDoorD24
import Derived.Lib.SlBytesConst
namespace Go.Proofs.YtdfnfmanpdafpaaDoor
open Go.RowKit

theorem lit_bytesD (w : World) (l : List UInt8) (cs : Array Value) (n : Nat) (hn : l.length = n) (hcs : cs.toList = bV l) (hm : n ≤ maxLen) : Bytes (w.alloc (.cells cs 5)) (.slice (some ⟨w.heap.size, 0, none⟩) n n) l := by
  subst hn
  refine Row.of_own (base := 0) (e := 5) ⟨by show (bV l).length = l.length * 1; rw [bV_len]; omega, .inr ⟨w.heap.size, l.length, cs, rfl, Nat.zero_le _, heap_alloc_new w _, Nat.le_refl _, hm, ?_, ?_⟩⟩
  · have := congrArg List.length hcs
    rw [Array.length_toList, bV_len] at this
    omega
  · rw [hcs]
    exact List.take_of_length_le (by rw [bV_len]; omega)
theorem lit_u16D (w : World) (l : List Nat) (cs : Array Value) (n : Nat) (hn : l.length = n) (hcs : cs.toList = u16V l) (hm : n ≤ maxLen) : Row (w.alloc (.cells cs 59)) 1 (.slice (some ⟨w.heap.size, 0, none⟩) n n) l.length (u16V l) := by
  subst hn
  refine Row.of_own (base := 0) (e := 59) ⟨by unfold u16V; rw [List.length_map]; omega, .inr ⟨w.heap.size, l.length, cs, rfl, Nat.zero_le _, heap_alloc_new w _, Nat.le_refl _, hm, ?_, ?_⟩⟩
  · have := congrArg List.length hcs
    unfold u16V at this
    rw [Array.length_toList, List.length_map] at this
    omega
  · rw [hcs]
    exact List.take_of_length_le (by unfold u16V; rw [List.length_map]; omega)
theorem lit_strsD (w : World) (l : List (List UInt8)) (cs : Array Value) (n : Nat) (hn : l.length = n) (hcs : cs.toList = l.map stD) (hm : n ≤ maxLen) : Row (w.alloc (.cells cs 9)) 1 (.slice (some ⟨w.heap.size, 0, none⟩) n n) l.length (l.map stD) := by
  subst hn
  refine Row.of_own (base := 0) (e := 9) ⟨by rw [List.length_map]; omega, .inr ⟨w.heap.size, l.length, cs, rfl, Nat.zero_le _, heap_alloc_new w _, Nat.le_refl _, hm, ?_, ?_⟩⟩
  · have := congrArg List.length hcs
    rw [Array.length_toList, List.length_map] at this
    omega
  · rw [hcs]
    exact List.take_of_length_le (by rw [List.length_map]; omega)
theorem lit_bytesM (w : World) (l : List UInt8) (cs : Array Value) (fr : Nat × Nat) (n : Nat) (hn : l.length = n) (hcs : cs.toList = bV l) (hm : n ≤ maxLen) : Bytes (w.alloc (.cells cs 5 fr)) (.slice (some ⟨w.heap.size, 0, none⟩) n n) l := by
  subst hn
  refine ⟨by show (bV l).length = l.length * 1; rw [bV_len]; omega, _, _, rfl, Nat.le_refl _, hm, by simp, fun p hp _ => by cases hp; rfl, fun j u hj => ⟨_, rfl, ?_⟩⟩
  show (w.alloc (.cells cs 5 fr)).cell? ⟨w.heap.size, 0 + j, none⟩ = some u
  rw [World.cell?_alloc_mark, Nat.zero_add, ← hj]
  show cs[j]? = (bV l)[j]?
  rw [← hcs, Array.getElem?_toList]
theorem makeD {ops : Array Oper} {Q : Exit → Act → World → Prop} {a : Act} {w : World} {rest : List Oper} {o : Oper}
    (l c : Operand) (ho : o.op = .makeSlice 24 l c) (hw : Region.wanted o (yielded ops a.tmps) = true) (n : Nat) (hl : a.eval l = .int .i64 n) (hc : a.eval c = .int .i64 n) (hn : n ≤ 16777216)
    (h : ∀ w', Bytes w' (.slice (some ⟨w.heap.size, 0, none⟩) n n) (List.replicate n 0) → Ext w w' → wpList Tryd.prog ops Q rest (a.put o.dst (.slice (some ⟨w.heap.size, 0, none⟩) n n)) w') : wpList Tryd.prog ops Q (o :: rest) a w := by
  obtain ⟨i5, hi5, z5, s5, b5⟩ := info_parts infoU8
  obtain ⟨w', hr, h1, h2⟩ := run_makeSlice_full (P := Tryd.prog) (w := w) w.heap.size 24 5 i5 (.int .u8 0) 1 Tryd.underlying24 hi5 z5 s5 .i64 .i64 n (by omega) (by rw [b5]; omega) (by simp only [maxLen]; omega) (Nat.le_refl _)
  refine wpList_val hw (by simp [execOp, ho, hl, hc, hr]) (h w' ?_ (Below.grown (Below.refl _ _) h2 (Nat.le_refl _) (by simp)))
  have e : (madeCells (Value.int .u8 0).cells (n * 1)).toList = bV (List.replicate n (0 : UInt8)) := by
    rw [Nat.mul_one]
    have := toList_madeCells_one (Value.int .u8 0) n
    rw [show (Value.int IntKind.u8 0).cells = #[Value.int .u8 0] from rfl, this]; simp [bV]
  rw [e] at h1
  have := Row.of_own h1
  unfold Bytes
  rw [List.length_replicate]
  exact this
def wA0 : DS := ⟨[], 9, -1, false⟩
def wA1 : DS := ⟨[⟨[97], [], 0⟩], 9, -1, false⟩
def wA2 : DS := ⟨[⟨[97], [0, 0, 0, 0, 0], 0⟩], 9, -1, false⟩
def wA3 : DS := ⟨[⟨[97], [0, 0, 0, 0, 0], 5⟩], 9, -1, false⟩
def wA4 : DS := ⟨[⟨[97], [0, 0, 0, 0, 0, 120, 121], 5⟩], 9, -1, false⟩
def wA5 : DS := ⟨[⟨[97], [0, 0, 0, 0, 0, 135], 6⟩], 9, -1, false⟩
def wA6 : DS := ⟨[⟨[97], [0, 0, 0, 0, 0, 135], 6⟩], 9, 1, false⟩
def wA7 : DS := ⟨[⟨[97], [0, 0, 0, 0, 0, 135], 6⟩, ⟨[98], [], 0⟩], 9, 0, false⟩
def wA8 : DS := ⟨[⟨[97], [0, 0, 0, 0, 0, 135], 6⟩, ⟨[98], [], 0⟩], 9, -1, true⟩
def wA9 : DS := ⟨[⟨[97], [0, 0, 0, 0, 0, 135], 6⟩, ⟨[98], [], 0⟩], 9, -1, false⟩
theorem aw_c1 : askdE wA0 (createL wA0 [97]) = 0 ∧ askdS wA0 (createL wA0 [97]) (createA [97]) = wA1 := ⟨rfl, rfl⟩
theorem aw_a1 : askdE wA1 (appendL wA1 [97] 5) = 0 ∧ askdS wA1 (appendL wA1 [97] 5) (appendA [97] [0, 0, 0, 0, 0]) = wA2 := ⟨rfl, rfl⟩
theorem aw_a2 : askdE wA2 (appendL wA2 [97] 5) = 7 ∧ askdS wA2 (appendL wA2 [97] 5) (appendA [97] [0, 0, 0, 0, 0]) = wA2 := ⟨rfl, rfl⟩
theorem aw_s : askdE wA2 (syncL wA2 [97]) = 0 ∧ askdS wA2 (syncL wA2 [97]) (syncA [97]) = wA3 := ⟨rfl, rfl⟩
theorem aw_a3 : askdE wA3 (appendL wA3 [97] 2) = 0 ∧ askdS wA3 (appendL wA3 [97] 2) (appendA [97] [120, 121]) = wA4 := ⟨rfl, rfl⟩
theorem aw_l : looseS wA4 [97] = 2 := rfl
theorem aw_x : crashS [7] [255] wA4 = wA5 := rfl
theorem aw_r : firstE (syncL wA5 [97]) = 0 ∧ readS wA5 [97] = [0, 0, 0, 0, 0, 135] := ⟨rfl, rfl⟩
theorem aw_f : firstE (fuseL wA5 1) = 0 ∧ fuseS wA5 1 = wA6 := ⟨rfl, rfl⟩
theorem aw_c2 : askdE wA6 (createL wA6 [98]) = 0 ∧ askdS wA6 (createL wA6 [98]) (createA [98]) = wA7 := ⟨rfl, rfl⟩
theorem aw_c3 : askdE wA7 (createL wA7 [99]) = 8 ∧ askdS wA7 (createL wA7 [99]) (createA [99]) = wA8 := ⟨rfl, rfl⟩
theorem aw_n : namesS wA8 = [] := rfl
theorem aw_y : crashS [] [] wA8 = wA9 := rfl
theorem aw_m : namesS wA9 = [[97], [98]] := rfl
theorem aw_c4 : askdE wA9 (createL wA9 [66]) = 1 ∧ askdS wA9 (createL wA9 [66]) (createA [66]) = wA9 := ⟨rfl, rfl⟩
theorem awk_xy (w W : World) (b : Nat) (fr : Nat × Nat) (h : AtD w b wA3 W) : Calls Tryd.prog 24 #[.pointer (some ⟨b, 0, none⟩), .string ⟨#[97]⟩, .slice (some ⟨W.heap.size, 0, none⟩) 2 2] (W.alloc (.cells #[.int .u8 120, .int .u8 121] 5 fr)) fun e w' => e = .returned (.int .i64 0) ∧ AtD w b wA4 w' :=
  AtD.append h ((Ext.refl _).alloc _) [97] _ 2 2 [120, 121] (lit_bytesM _ _ _ fr 2 rfl rfl (by unfold maxLen; omega)) (fun B o e => by cases e; exact Nat.le_refl _) 0 aw_a3.1 aw_a3.2
theorem awk_crash (w W : World) (b : Nat) (h : AtD w b wA4 W) : Calls Tryd.prog 12 #[.pointer (some ⟨b, 0, none⟩), .slice (some ⟨W.heap.size, 0, none⟩) 1 1, .slice (some ⟨W.heap.size + 1, 0, none⟩) 1 1] ((W.alloc (.cells #[.int .u16 7] 59)).alloc (.cells #[.int .u8 255] 5)) fun e w' => e = .returned (.int .i64 0) ∧ AtD w b wA5 w' := by
  have h1 := lit_u16D W [7] #[.int .u16 7] 1 rfl rfl (by unfold maxLen; omega)
  have h2 := lit_bytesD (W.alloc (.cells #[.int .u16 7] 59)) [255] #[.int .u8 255] 1 rfl rfl (by unfold maxLen; omega)
  rw [World.size_alloc] at h2
  exact AtD.crash h (((Ext.refl _).alloc _).alloc _) _ _ 1 1 1 1 [7] [255] (Row.ext h1 ((Ext.refl _).alloc _)) (by intro p hp; simp at hp; omega) h2 (fun B o e => by cases e; exact Nat.le_refl _) (fun B o e => by cases e; exact Nat.le_succ _) aw_x
theorem awk_crash0 (w W : World) (b : Nat) (h : AtD w b wA8 W) : Calls Tryd.prog 12 #[.pointer (some ⟨b, 0, none⟩), .slice none 0 0, .slice none 0 0] W fun e w' => e = .returned (.int .i64 0) ∧ AtD w b wA9 w' :=
  AtD.crash h (Ext.refl _) none none 0 0 0 0 [] [] (Row.nil _ 1) (by intro p hp; cases hp) (Bytes.nil _) (fun B o e => by cases e) (fun B o e => by cases e) aw_y
theorem awk_read (w W : World) (b : Nat) (h : AtD w b wA5 W) : Calls Tryd.prog 10 #[.pointer (some ⟨b, 0, none⟩), .string ⟨#[97]⟩] W fun e w' => ∃ ra rc, e = .returned (.tuple #[.slice ra 6 rc, .int .i64 0]) ∧ Bytes w' (.slice ra 6 rc) [0, 0, 0, 0, 0, 135] ∧ AtD w b wA5 w' := by
  refine (AtD.read h [97] 0 [0, 0, 0, 0, 0, 135] aw_r.1 aw_r.2).mono ?_
  rintro e w' ⟨v, rfl, ho, h, hx⟩
  have hb := ho.bytes
  obtain ⟨ra, rc, rfl, _, _⟩ := ho.shape
  exact ⟨ra, rc, rfl, hb, h⟩
theorem awk_eq (W : World) (ra : Option Addr) (rc : Nat) (h : Bytes W (.slice ra 6 rc) [0, 0, 0, 0, 0, 135]) : Calls Tryd.prog 14 #[.slice ra 6 rc, .slice (some ⟨W.heap.size, 0, none⟩) 6 6] (W.alloc (.cells #[.int .u8 0, .int .u8 0, .int .u8 0, .int .u8 0, .int .u8 0, .int .u8 135] 5)) fun e w' => e = .returned (.bool true) ∧ Ext (W.alloc (.cells #[.int .u8 0, .int .u8 0, .int .u8 0, .int .u8 0, .int .u8 0, .int .u8 135] 5)) w' := by
  refine (beq_dk _ _ _ [0, 0, 0, 0, 0, 135] [0, 0, 0, 0, 0, 135] (h.ext ((Ext.refl _).alloc _)) (lit_bytesD _ _ _ 6 rfl rfl (by unfold maxLen; omega))).mono ?_
  rintro e w' ⟨rfl, rfl⟩
  exact ⟨rfl, Ext.refl _⟩
theorem awk_fuse (w W : World) (b : Nat) (h : AtD w b wA5 W) : Calls Tryd.prog 16 #[.pointer (some ⟨b, 0, none⟩), .int .i64 1] W fun e w' => e = .returned (.int .i64 0) ∧ AtD w b wA6 w' :=
  AtD.fuse h 1 (by omega) 0 aw_f.1 aw_f.2
theorem awk_b (w W : World) (b : Nat) (h : AtD w b wA6 W) : Calls Tryd.prog 19 #[.pointer (some ⟨b, 0, none⟩), .string ⟨#[98]⟩] W fun e w' => e = .returned (.int .i64 0) ∧ AtD w b wA7 w' := AtD.create h [98] 0 aw_c2.1 aw_c2.2
theorem awk_c (w W : World) (b : Nat) (h : AtD w b wA7 W) : Calls Tryd.prog 19 #[.pointer (some ⟨b, 0, none⟩), .string ⟨#[99]⟩] W fun e w' => e = .returned (.int .i64 8) ∧ AtD w b wA8 w' := AtD.create h [99] 8 aw_c3.1 aw_c3.2
theorem awk_B (w W : World) (b : Nat) (h : AtD w b wA9 W) : Calls Tryd.prog 19 #[.pointer (some ⟨b, 0, none⟩), .string ⟨#[66]⟩] W fun e w' => e = .returned (.int .i64 1) ∧ AtD w b wA9 w' := AtD.create h [66] 1 aw_c4.1 aw_c4.2
theorem awk_off (w W : World) (b : Nat) (h : AtD w b wA8 W) : Calls Tryd.prog 18 #[.pointer (some ⟨b, 0, none⟩)] W fun e w' => e = .returned (.bool true) ∧ w' = W := AtD.off h
theorem awk_n0 (w W : World) (b : Nat) (h : AtD w b wA8 W) : Calls Tryd.prog 9 #[.pointer (some ⟨b, 0, none⟩)] W fun e w' => ∃ na nc, e = .returned (.slice na 0 nc) ∧ AtD w b wA8 w' := by
  refine (AtD.names h [] aw_n).mono ?_
  rintro e w' ⟨v2, rfl, ho, h, hx⟩
  obtain ⟨na, nc, rfl, _, _⟩ := own_shape ho
  exact ⟨na, nc, rfl, h⟩
theorem awk_n2 (w W : World) (b : Nat) (h : AtD w b wA9 W) : Calls Tryd.prog 9 #[.pointer (some ⟨b, 0, none⟩)] W fun e w' => ∃ na nc, e = .returned (.slice na 2 nc) ∧ Row w' 1 (.slice na 2 nc) 2 [stD [97], stD [98]] ∧ AtD w b wA9 w' := by
  refine (AtD.names h [[97], [98]] aw_m).mono ?_
  rintro e w' ⟨v2, rfl, ho, h, hx⟩
  have hr := Row.of_own ho
  obtain ⟨na, nc, rfl, _, _⟩ := own_shape ho
  exact ⟨na, nc, rfl, hr, h⟩
theorem awk_same (W : World) (na : Option Addr) (nc : Nat) (h : Row W 1 (.slice na 2 nc) 2 [stD [97], stD [98]]) : Calls Tryd.prog 13 #[.slice na 2 nc, .slice (some ⟨W.heap.size, 0, none⟩) 2 2] (W.alloc (.cells #[.string ⟨#[97]⟩, .string ⟨#[98]⟩] 9)) fun e w' => e = .returned (.bool true) ∧ Ext (W.alloc (.cells #[.string ⟨#[97]⟩, .string ⟨#[98]⟩] 9)) w' :=
  same_any _ _ _ [[97], [98]] [[97], [98]] (h.ext ((Ext.refl _).alloc _)) (lit_strsD _ [[97], [98]] _ 2 rfl rfl (by unfold maxLen; omega)) (by simp)
set_option maxRecDepth 100000 in
set_option maxHeartbeats 4000000 in
theorem awakeD (w : World) : Calls Tryd.prog 7 #[] w fun e w' => e = .returned (.bool true) ∧ Ext w w' := by
  have kc := fun (w : World) (C : Array Value) (n c : Nat) => Lib.run_convert_bytes_const (P := Tryd.prog) w 24 5 C n c Tryd.underlying24 Tryd.underlying5
  go_enter Tryd.func7, Tryd.ntmps7
  go_upto_region 2 with (go_at_call 6; (with_reducible refine (AtD.new w _ (Ext.refl _) 9 (by omega) (by omega)).mono ?_); rintro e w1 ⟨b, rfl, h⟩; have H0 : Hid (AtD w b wA0 w1) := h; clear h)
  go_upto_region 4 with (first
    | (go_at_call 19; (refine (AtD.create H0.out [97] 0 aw_c1.1 aw_c1.2).mono ?_); rintro e w2 ⟨rfl, h⟩; have H1 := Lib.hid h; clear h H0)
    | (refine makeD _ _ rfl rfl 5 rfl rfl (by omega) ?_; intro wm hb hx; have HM := Lib.hid (And.intro hb hx); clear hb hx)
    | (go_at_call 24; (refine (AtD.append H1.out HM.out.2 [97] _ 5 5 [0, 0, 0, 0, 0] HM.out.1 (fun B o e => by cases e; exact Nat.le_refl _) 0 aw_a1.1 aw_a1.2).mono ?_); rintro e w3 ⟨rfl, h⟩; have H2 := Lib.hid h; clear h H1 HM)
    | (go_at_call 24; (refine (AtD.append H2.out HM.out.2 [97] _ 5 5 [0, 0, 0, 0, 0] HM.out.1 (fun B o e => by cases e; exact Nat.le_refl _) 7 aw_a2.1 aw_a2.2).mono ?_); rintro e w4 ⟨rfl, h⟩; have H3 := Lib.hid h; clear h H2 HM)
    | (go_at_call 25; (refine (AtD.sync H3.out [97] 0 aw_s.1 aw_s.2).mono ?_); rintro e w5 ⟨rfl, h⟩; have H4 := Lib.hid h; clear h H3)
    | (go_at_call 24; (with_reducible refine (awk_xy w _ b _ H4.out).mono ?_); rintro e w6 ⟨rfl, h⟩; have H5 := Lib.hid h; clear h H4)
    | (go_at_call 11; (refine (AtD.loose H5.out [97] 2 aw_l).mono ?_); rintro e w7 ⟨rfl, h⟩; have H6 := Lib.hid h; clear h H5))
  clear kc
  go_upto_region 5 with (go_at_call 12; (with_reducible refine (awk_crash w _ b H6.out).mono ?_); rintro e w8 ⟨rfl, h⟩; have H7 := Lib.hid h; clear h H6)
  go_upto_region 6 with (go_at_call 10; (with_reducible refine (awk_read w _ b H7.out).mono ?_); rintro e w9 ⟨ra, rc, rfl, hb, h⟩; have H8 := Lib.hid h; have HB := Lib.hid hb; clear h H7 hb)
  go_upto_region 8 with (first
    | (go_at_call 14; (with_reducible refine (awk_eq _ ra rc HB.out).mono ?_); rintro e w10 ⟨rfl, hx⟩; have H8b := Lib.hid (H8.out.ext (((Ext.refl _).alloc _).trans hx)); clear hx)
    | (go_at_call 16; (with_reducible refine (awk_fuse w _ b H8b.out).mono ?_); rintro e w11 ⟨rfl, h⟩; have H9 := Lib.hid h; clear h H8 H8b))
  go_upto_region 9 with (first
    | (go_at_call 19; (with_reducible refine (awk_b w _ b H9.out).mono ?_); rintro e w12 ⟨rfl, h⟩; have H10 := Lib.hid h; clear h H9)
    | (go_at_call 19; (with_reducible refine (awk_c w _ b H10.out).mono ?_); rintro e w13 ⟨rfl, h⟩; have H11 := Lib.hid h; clear h H10))
  go_upto_region 10 with (first
    | (go_at_call 18; (with_reducible refine (awk_off w _ b H11.out).mono ?_); rintro e w14 ⟨rfl, rfl⟩)
    | (go_at_call 9; (with_reducible refine (awk_n0 w _ b H11.out).mono ?_); rintro e w15 ⟨na, nc, rfl, h⟩; have H12 := Lib.hid h; clear h H11))
  go_upto_region 11 with (go_at_call 12; (with_reducible refine (awk_crash0 w _ b H12.out).mono ?_); rintro e w16 ⟨rfl, h⟩; have H13 := Lib.hid h; clear h H12)
  go_wp2_with (first
    | (go_at_call 9; (with_reducible refine (awk_n2 w _ b H13.out).mono ?_); rintro e w17 ⟨ma, mc, rfl, hr, h⟩; have H14 := Lib.hid h; have HR := Lib.hid hr; clear h hr H13)
    | (go_at_call 13; (with_reducible refine (awk_same _ ma mc HR.out).mono ?_); rintro e w18 ⟨rfl, hx⟩; have H15 := Lib.hid (H14.out.ext (((Ext.refl _).alloc _).trans hx)); clear hx)
    | (go_at_call 19; (with_reducible refine (awk_B w _ b H15.out).mono ?_); rintro e w19 ⟨rfl, h⟩; have H16 := Lib.hid h; clear h))
  go_ret
  exact ⟨rfl, H16.out.out⟩
end Go.Proofs.YtdfnfmanpdafpaaDoor
