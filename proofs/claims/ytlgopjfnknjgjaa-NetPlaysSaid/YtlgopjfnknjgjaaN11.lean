/- wakes (27). -/
import Derived.Test.YtlgopjfnknjgjaaN10
import Derived.Test.YtlgopjfnknjgjaaN24
import Derived.Lib.SlBytesConst
namespace Go.Proofs.Ytlgopjfnknjgjaa
open Go.RowKit Go.MapKept

theorem byte_row (w : World) (c : UInt8) : Bytes (w.alloc (.cells #[.int .u8 (c.toNat : Int)] 5 (1, 2))) (.slice (some ⟨w.heap.size, 0, none⟩) 1 1) [c] := by
  have hb := (boxes1 w (.cells #[.int .u8 (c.toNat : Int)] 5 (1, 2))).2
  refine ⟨rfl, some ⟨w.heap.size, 0, none⟩, 1, rfl, Nat.le_refl _, by unfold maxLen; omega, (fun h => by cases h), (fun p hp _ => by cases hp; rfl), fun j u hj => ?_⟩
  match j, hj with
  | 0, hj =>
    simp at hj
    subst hj
    exact ⟨_, rfl, cell_of_row _ _ 0 _ _ _ hb⟩
/-- Sending the bytes of one letter; numbers as they are spelled. -/
theorem send_lit (w : World) (base bn bm k last : Nat) (L : List PK) (h : NetR w base bn bm k last L) (p q l2 : Nat) (c : UInt8) (hin : p < k ∧ q < k) (hne : p ≠ q) (hf : L.length < 4096) (hlast : last < 1000000000) (P Q C R : Int) (hP : P = p) (hQ : Q = q) (hC : C = (c.toNat : Int)) (hl : l2 = last + 1) (hR : R = l2) :
    Calls Try.prog 22 #[.pointer (some ⟨bn, 0, none⟩), .int .i64 P, .int .i64 Q, .slice (some ⟨w.heap.size, 0, none⟩) 1 1] (w.alloc (.cells #[.int .u8 C] 5 (1, 2))) fun e w' => e = .returned (.tuple #[.int .u64 R, .int .i64 0]) ∧ (∃ hv, NetR w' base bn bm k l2 (L ++ [⟨l2, p, q, [c], hv⟩])) ∧ Net2 bn bm w w' := by
  subst hP; subst hQ; subst hC; subst hR; subst hl
  have hx : Ext w (w.alloc (.cells #[.int .u8 (c.toNat : Int)] 5 (1, 2))) := (Ext.refl w).alloc _
  refine (send_any _ base bn bm k last L (h.ext hx) p q _ [c] (byte_row w c) (fun w1 w2 h2 hb => h2.bytes hb (Nat.ne_of_gt h.bnlt) (Nat.ne_of_gt h.bmlt)) hin hne (Nat.le_trans (Nat.le_refl 1) (by decide)) hf hlast).mono ?_
  rintro e w' ⟨rfl, h1, h2⟩
  exact ⟨rfl, h1, (Net2.of hx).trans h2⟩
theorem new_lit (w : World) (k : Nat) (K : Int) (hK : K = k) (h1 : 1 ≤ k) (h2 : k ≤ 64) : Calls Try.prog 21 #[.int .i64 K] w fun e w' => e = .returned (.tuple #[.pointer (some ⟨w.heap.size + 1, 0, none⟩), .int .i64 0]) ∧ NetR w' w.heap.size (w.heap.size + 1) w.heap.size k 0 [] ∧ Ext w w' := by
  subst hK
  exact new_yes w k h1 h2
theorem dl_yes (w : World) (base bn bm k last id : Nat) (L1 L2 L M : List PK) (x : PK) (h : NetR w base bn bm k last L) (hL : L = L1 ++ x :: L2) (hM : L1 ++ L2 = M) (hid : x.id = id) (I F D : Int) (hI : I = id) (hF : F = x.fr) (hD : D = x.dst) : Calls Try.prog 23 #[.pointer (some ⟨bn, 0, none⟩), .int .u64 I] w fun e w' => e = .returned (.tuple #[.int .i64 F, .int .i64 D, x.h, .int .i64 0]) ∧ NetR w' base bn bm k last M ∧ Net2 bn bm w w' ∧ OwnB w' base x.h x.b := by
  subst hid; subst hL; subst hI; subst hF; subst hD; subst hM
  exact deliver_yes w base bn bm k last L1 L2 x h
theorem dl_no (w : World) (base bn bm k last : Nat) (L : List PK) (h : NetR w base bn bm k last L) (id : Nat) (hno : ∀ x ∈ L, x.id ≠ id) (I : Int) (hI : I = id) : Calls Try.prog 23 #[.pointer (some ⟨bn, 0, none⟩), .int .u64 I] w fun e w' => e = .returned (.tuple #[.int .i64 0, .int .i64 0, .slice none 0 0, .int .i64 6]) ∧ Ext w w' := by
  subst hI
  exact deliver_no w base bn bm k last L h id hno
theorem dr_yes (w : World) (base bn bm k last id : Nat) (L1 L2 L M : List PK) (x : PK) (h : NetR w base bn bm k last L) (hL : L = L1 ++ x :: L2) (hM : L1 ++ L2 = M) (hid : x.id = id) (I : Int) (hI : I = id) : Calls Try.prog 24 #[.pointer (some ⟨bn, 0, none⟩), .int .u64 I] w fun e w' => e = .returned (.int .i64 0) ∧ NetR w' base bn bm k last M ∧ Net2 bn bm w w' := by
  subst hid; subst hL; subst hI; subst hM
  exact drop_yes w base bn bm k last L1 L2 x h
theorem db_yes (w : World) (base bn bm k last l2 id : Nat) (L : List PK) (x : PK) (h : NetR w base bn bm k last L) (hxm : x ∈ L) (hid : x.id = id) (hf : L.length < 4096) (hlast : last < 1000000000) (I R : Int) (hI : I = id) (hl : l2 = last + 1) (hR : R = l2) : Calls Try.prog 25 #[.pointer (some ⟨bn, 0, none⟩), .int .u64 I] w fun e w' => e = .returned (.tuple #[.int .u64 R, .int .i64 0]) ∧ (∃ hv, NetR w' base bn bm k l2 (L ++ [⟨l2, x.fr, x.dst, x.b, hv⟩])) ∧ Net2 bn bm w w' := by
  subst hid; subst hI; subst hR; subst hl
  exact double_yes w base bn bm k last L x h hxm hf hlast
theorem bt_is (w : World) (base bn bm k last : Nat) (L : List PK) (h : NetR w base bn bm k last L) (p q : Int) (r : List Nat) (hr : betw p q (L.map wOf) = r) : Calls Try.prog 33 #[.pointer (some ⟨bn, 0, none⟩), .int .i64 p, .int .i64 q] w fun e w' => ∃ a c, e = .returned (.slice a r.length c) ∧ Ext w w' := by
  refine (between_any w base bn bm k last L h p q).mono ?_
  rintro e w' ⟨v, rfl, ho, hx⟩
  rw [hr] at ho
  obtain ⟨a, c, e, _⟩ := own_shape ho
  exact ⟨a, c, by rw [e], hx⟩

set_option maxRecDepth 100000 in
set_option maxHeartbeats 8000000 in
theorem netwakes_any (w : World) : Calls Try.prog 27 #[] w fun e w' => e = .returned (.bool true) ∧ Ext w w' := by
  have HNEW := Lib.hid (new_lit w 3 3 rfl (by decide) (by decide))
  have kc := fun (w : World) (C : Array Value) (n c : Nat) => Lib.run_convert_bytes_const (P := Try.prog) w 52 5 C n c Try.underlying52 Try.underlying5
  go_enter Try.func27, Try.ntmps27
  go_upto_region 4 with ((with_reducible refine HNEW.out.mono ?_); rintro e w1 ⟨rfl, hn, hx⟩; have HN1 := Lib.hid hn; have HX1 := Lib.hid hx; clear hn hx)
  clear HNEW
  have HBN : Hid (w.heap.size ≤ w.heap.size + 1) := Nat.le_succ _
  have HBM : Hid (w.heap.size ≤ w.heap.size) := Nat.le_refl _
  generalize hbn : w.heap.size + 1 = bn at HN1 HBN ⊢
  clear hbn
  obtain ⟨bm, hbm⟩ : ∃ bm, bm = w.heap.size := ⟨_, rfl⟩
  have HN1' : Hid (NetR w1 w.heap.size bn bm 3 0 []) := by rw [hbm]; exact HN1.out
  have HBM' : Hid (w.heap.size ≤ bm) := by rw [hbm]; exact HBM.out
  clear hbm HN1 HBM
  go_upto_region 8 with (first
    | (go_at_call 22; (with_reducible refine (send_lit w1 _ _ _ _ _ _ HN1'.out 0 1 1 97 (by decide) (by decide) (by decide) (by decide) 0 1 97 1 rfl rfl rfl rfl rfl).mono ?_); rintro e w2 ⟨rfl, ⟨h1, hn⟩, h2⟩; have HN2 := Lib.hid hn; have H2 := Lib.hid h2; clear hn h2)
    | (go_at_call 22; (with_reducible refine (send_lit w2 _ _ _ _ _ _ HN2.out 2 1 2 98 (by decide) (by decide) (by simp) (by decide) 2 1 98 2 rfl rfl rfl rfl rfl).mono ?_); rintro e w3 ⟨rfl, ⟨h2, hn⟩, h2'⟩; have HN3 := Lib.hid hn; have H3 := Lib.hid (H2.out.trans h2'); clear hn h2')
    | (go_at_call 25; (with_reducible refine (db_yes w3 _ _ _ _ _ 3 1 _ ⟨1, 0, 1, [97], h1⟩ HN3.out (by simp) rfl (by simp) (by decide) 1 3 rfl rfl rfl).mono ?_); rintro e w4 ⟨rfl, ⟨h3, hn⟩, h2'⟩; have HN4 := Lib.hid hn; have H4 := Lib.hid (H3.out.trans h2'); clear hn h2')
    | (go_at_call 23; (with_reducible refine (dl_yes w4 _ _ _ _ _ 3 [⟨1, 0, 1, [97], h1⟩, ⟨2, 2, 1, [98], h2⟩] [] _ [⟨1, 0, 1, [97], h1⟩, ⟨2, 2, 1, [98], h2⟩] ⟨3, 0, 1, [97], h3⟩ HN4.out rfl rfl rfl 3 0 1 rfl rfl rfl).mono ?_); rintro e w5 ⟨rfl, hn, h2', ho⟩; have HN5 := Lib.hid hn; have H5 := Lib.hid (H4.out.trans h2'); have HO5 := Lib.hid ho; clear hn h2' ho))
  clear HN1' HN2 HN3 HN4 kc
  go_upto_region 10 with (first
    | (go_at_call 23; (with_reducible refine (dl_no w5 _ _ _ _ _ _ HN5.out 3 (by simp) 3 rfl).mono ?_); rintro e w6 ⟨rfl, hx⟩; have HN6 := Lib.hid (HN5.out.ext hx); have H6 := Lib.hid (H5.out.trans (Net2.of hx)); have HO6 := Lib.hid (own_ext HO5.out hx); clear hx)
    | (go_at_call 24; (with_reducible refine (dr_yes w6 _ _ _ _ _ 1 [] [⟨2, 2, 1, [98], h2⟩] _ [⟨2, 2, 1, [98], h2⟩] ⟨1, 0, 1, [97], h1⟩ HN6.out rfl rfl rfl 1 rfl).mono ?_); rintro e w7 ⟨rfl, hn, h2'⟩; have HN7 := Lib.hid hn; have H7 := Lib.hid (H6.out.trans h2'); have HO7 := Lib.hid (HN6.out.row h2' HO6.out (by decide)); clear hn h2'))
  clear HN5 HN6 HO5 HO6 H2 H3 H4 H5 H6
  have HBY7 : Hid (Bytes w7 h3 [97]) := OwnB.bytes HO7.out
  obtain ⟨a3, c3, e3⟩ := OwnB.slice HO7.out
  have e4 : h3 = .slice a3 1 c3 := e3
  clear HO7 e3
  subst e4
  go_wp2_with (first
    | (go_at_call 26; (with_reducible refine (ways_any w7 _ _ _ _ _ _ HN7.out).mono ?_); rintro e w8 ⟨v, rfl, ho, hx⟩; obtain ⟨aw, cw, rfl, _, _⟩ := own_shape ho; obtain ⟨B, o, ea, f0, f1, f2⟩ := WR.at (k := 0) (WaysO.row ho) (by simp); subst ea; have f0 : w8.cell? ⟨B, o, none⟩ = some (.int .u64 2) := f0; have f1 : w8.cell? ⟨B, o + 1, none⟩ = some (.int .i64 2) := f1; have f2 : w8.cell? ⟨B, o + 2, none⟩ = some (.int .i64 1) := f2; have HN8 := Lib.hid (HN7.out.ext hx); have H8 := Lib.hid (H7.out.trans (Net2.of hx)); have hcv : (convert 52 9 (.slice a3 1 c3)).run Try.prog w8 = .ok (.string ⟨#[97]⟩) w8 := run_bytes_str w8 52 9 5 Try.underlying52 Try.underlying5 Try.underlying9 (Bytes.ext HBY7.out hx); clear hx ho)
    | (go_at_call 33; (with_reducible refine (bt_is w8 _ _ _ _ _ _ HN8.out 2 1 [2] rfl).mono ?_); rintro e w9 ⟨a9, c9, rfl, hx⟩; have HN9 := Lib.hid (HN8.out.ext hx); have H9 := Lib.hid (H8.out.trans (Net2.of hx)); clear hx)
    | (go_at_call 33; (with_reducible refine (bt_is w9 _ _ _ _ _ _ HN9.out 1 2 [] rfl).mono ?_); rintro e w10 ⟨a10, c10, rfl, hx⟩; have H10 := Lib.hid (H9.out.trans (Net2.of hx)); clear hx))
  go_ret
  exact ⟨rfl, H10.out.ext HX1.out HBN.out HBM'.out⟩
end Go.Proofs.Ytlgopjfnknjgjaa
