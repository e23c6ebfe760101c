/- NetKnown, walked. -/
import Derived.Test.YtlgopjfnknjgjaaN12
namespace Go.Proofs.Ytlgopjfnknjgjaa
open Go.RowKit Go.MapKept

theorem makeN {ops : Array Oper} {Q : Exit → Act → World → Prop} {a : Act} {w : World} {rest : List Oper} {o : Oper}
    (l c : Operand) (ho : o.op = .makeSlice 52 l c) (hw : Region.wanted o (yielded ops a.tmps) = true) (n : Nat) (hl : a.eval l = .int .i64 n) (hc : a.eval c = .int .i64 n) (hn : n ≤ 16777216)
    (h : ∀ w', OwnB w' w.heap.size (.slice (some ⟨w.heap.size, 0, none⟩) n n) (List.replicate n 0) → w.grownBy w' none → wpList Try.prog ops Q rest (a.put o.dst (.slice (some ⟨w.heap.size, 0, none⟩) n n)) w') : wpList Try.prog ops Q (o :: rest) a w := by
  obtain ⟨i5, hi5, z5, s5, b5⟩ := info_parts info5t
  obtain ⟨w', hr, h1, h2⟩ := run_makeSlice_full (P := Try.prog) (w := w) w.heap.size 52 5 i5 (.int .u8 0) 1 Try.underlying52 hi5 z5 s5 .i64 .i64 n (by omega) (by rw [b5]; omega) (by simp only [maxLen]; omega) (Nat.le_refl _)
  refine wpList_val hw (by simp [execOp, ho, hl, hc, hr]) (h w' ?_ h2)
  unfold OwnB
  have e : (madeCells (Value.int .u8 0).cells (n * 1)).toList = bC (List.replicate n (0 : UInt8)) := by
    rw [Nat.mul_one]
    have := toList_madeCells_one (Value.int .u8 0) n
    unfold bC
    rw [show (Value.int IntKind.u8 0).cells = #[Value.int .u8 0] from rfl, this]; simp
  rw [e] at h1
  simpa using h1
theorem sendL (w : World) (base bn bm k last : Nat) (L : List PK) (h : NetR w base bn bm k last L) (p q : Nat) (ab : Option Addr) (nb cb : Nat) (hin : p < k ∧ q < k) (hne : p ≠ q) (hlb : 4096 < nb) (P Q : Int) (hP : P = p) (hQ : Q = q) :
    Calls Try.prog 22 #[.pointer (some ⟨bn, 0, none⟩), .int .i64 P, .int .i64 Q, .slice ab nb cb] w fun e w' => e = .returned (.tuple #[.int .u64 0, .int .i64 3]) ∧ Ext w w' := by
  subst hP; subst hQ; exact send_long w base bn bm k last L h p q ab nb cb hin hne hlb
theorem sendF (w : World) (base bn bm k last : Nat) (L : List PK) (h : NetR w base bn bm k last L) (p q : Nat) (ab : Option Addr) (nb cb : Nat) (hin : p < k ∧ q < k) (hne : p ≠ q) (hlb : nb ≤ 4096) (hf : 4096 ≤ L.length) (P Q : Int) (hP : P = p) (hQ : Q = q) :
    Calls Try.prog 22 #[.pointer (some ⟨bn, 0, none⟩), .int .i64 P, .int .i64 Q, .slice ab nb cb] w fun e w' => e = .returned (.tuple #[.int .u64 0, .int .i64 7]) ∧ Ext w w' := by
  subst hP; subst hQ; exact send_full w base bn bm k last L h p q ab nb cb hin hne hlb hf
theorem sendG (w : World) (base bn bm k last l2 : Nat) (L : List PK) (h : NetR w base bn bm k last L) (p q : Nat) (vb : Value) (lb : List UInt8) (hb : Bytes w vb lb) (hbk : ∀ w w', Net2 bn bm w w' → Bytes w vb lb → Bytes w' vb lb) (hin : p < k ∧ q < k) (hne : p ≠ q) (hlb : lb.length ≤ 4096) (hf : L.length < 4096) (hlast : last < 1000000000) (P Q R : Int) (hP : P = p) (hQ : Q = q) (hl : l2 = last + 1) (hR : R = l2) :
    Calls Try.prog 22 #[.pointer (some ⟨bn, 0, none⟩), .int .i64 P, .int .i64 Q, vb] w fun e w' => e = .returned (.tuple #[.int .u64 R, .int .i64 0]) ∧ (∃ hv, NetR w' base bn bm k l2 (L ++ [⟨l2, p, q, lb, hv⟩])) ∧ Net2 bn bm w w' := by
  subst hP; subst hQ; subst hR; subst hl
  exact send_any w base bn bm k last L h p q vb lb hb hbk hin hne hlb hf hlast
theorem dbF (w : World) (base bn bm k last id : Nat) (L : List PK) (x : PK) (h : NetR w base bn bm k last L) (hxm : x ∈ L) (hid : x.id = id) (hf : 4096 ≤ L.length) (I : Int) (hI : I = id) : Calls Try.prog 25 #[.pointer (some ⟨bn, 0, none⟩), .int .u64 I] w fun e w' => e = .returned (.tuple #[.int .u64 0, .int .i64 7]) ∧ Ext w w' := by
  subst hid; subst hI
  exact double_full w base bn bm k last L x h hxm hf
/-- k packets on their way, numbered from 1 on. -/
def KN (w : World) (base bn bm k : Nat) : Prop := ∃ L, NetR w base bn bm 64 k L ∧ L.length = k ∧ ∀ j, 1 ≤ j → j ≤ k → ∃ x ∈ L, x.id = j
theorem nil0 (W : World) : NilN W (.pointer none) := .inl rfl
theorem KN.step {w' : World} {base bn bm k : Nat} {L : List PK} {x : PK} (hl : L.length = k) (hj : ∀ j, 1 ≤ j → j ≤ k → ∃ x ∈ L, x.id = j) (h : NetR w' base bn bm 64 (k + 1) (L ++ [x])) (hx : x.id = k + 1) : KN w' base bn bm (k + 1) := by
  refine ⟨_, h, by rw [List.length_append, hl]; rfl, fun j h1 h2 => ?_⟩
  by_cases e : j = k + 1
  · exact ⟨x, List.mem_append_right _ (List.mem_singleton.2 rfl), by omega⟩
  · obtain ⟨y, hy, e2⟩ := hj j h1 (by omega)
    exact ⟨y, List.mem_append_left _ hy, e2⟩

set_option maxRecDepth 100000 in
set_option maxHeartbeats 8000000 in
theorem netKnown_walk (w : World) : Calls Try.prog 11 #[] w fun e w' => e = .returned (.bool true) ∧ Ext w w' := by
  obtain ⟨hxa, hbx⟩ := boxes1 w (.cells #[.int .i64 0, .int .u64 0, .map none] 87)
  have HZ := Lib.hid (show NilN (w.alloc (.cells #[.int .i64 0, .int .u64 0, .map none] 87)) (.pointer (some ⟨w.heap.size, 0, none⟩)) from .inr ⟨_, rfl, hbx⟩)
  have HXA := Lib.hid hxa
  clear hxa hbx
  go_enter Try.func11, Try.ntmps11
  go_upto_region 3 with fail
  generalize w.alloc (.cells #[.int .i64 0, .int .u64 0, .map none] 87) = wa at *
  generalize w.heap.size = bz at HZ ⊢
  go_upto_region 8 with (first
    | (go_at_call 22; (with_reducible refine (send_nil _ _ (nil0 _) _ _ _).mono ?_); rintro e w1 ⟨rfl, hx⟩; have HX1 := Lib.hid hx; clear hx)
    | (go_at_call 23; (with_reducible refine (deliver_nil _ _ (HZ.out.ext HX1.out) _).mono ?_); rintro e w2 ⟨rfl, hx⟩; have HX2 := Lib.hid (HX1.out.trans hx); clear hx)
    | (go_at_call 25; (with_reducible refine (double_nil _ _ (nil0 _) _).mono ?_); rintro e w3 ⟨rfl, hx⟩; have HX3 := Lib.hid (HX2.out.trans hx); clear hx)
    | (go_at_call 21; (with_reducible refine (new_no w3 0 (by decide)).mono ?_); rintro e w4 ⟨rfl, hx⟩; have HX4 := Lib.hid (HX3.out.trans hx); clear hx)
    | (go_at_call 21; (with_reducible refine (new_no w4 65 (by decide)).mono ?_); rintro e w5 ⟨rfl, hx⟩; have HX5 := Lib.hid (HX4.out.trans hx); clear hx))
  clear HX1 HX2 HX3 HX4
  go_upto_region 10 with (first
    | (go_at_call 24; (with_reducible refine (drop_nil _ _ (nil0 _) _).mono ?_); rintro e w6 ⟨rfl, hx⟩; have HX6 := Lib.hid (HX5.out.trans hx); clear hx)
    | (go_at_call 26; (with_reducible refine (ways_nil _ _ (HZ.out.ext HX6.out)).mono ?_); rintro e w7 ⟨rfl, hx⟩; have HX7 := Lib.hid (HX6.out.trans hx); clear hx)
    | (go_at_call 33; (with_reducible refine (between_nil _ _ (nil0 _) _ _).mono ?_); rintro e w8 ⟨rfl, hx⟩; have HX8 := Lib.hid (HX7.out.trans hx); clear hx)
    | (go_at_call 32; (with_reducible refine (copy_nil _ _ (nil0 _)).mono ?_); rintro e w9 ⟨rfl, hx⟩; have HX9 := Lib.hid (HXA.out.trans (HX8.out.trans hx)); clear hx))
  clear HX5 HX6 HX7 HX8 HXA HZ
  go_upto_region 11 with (go_at_call 21; (with_reducible refine (new_lit w9 64 64 rfl (by decide) (by decide)).mono ?_); rintro e w10 ⟨rfl, hn, hx⟩; have HN1 := Lib.hid hn; have HX10 := Lib.hid hx; clear hn hx)
  have HBN : Hid (w9.heap.size ≤ w9.heap.size + 1) := Nat.le_succ _
  have HBM0 : Hid (w9.heap.size ≤ w9.heap.size) := Nat.le_refl _
  generalize hbn : w9.heap.size + 1 = bn at HN1 HBN ⊢
  clear hbn
  obtain ⟨bm, hbm⟩ : ∃ bm, bm = w9.heap.size := ⟨_, rfl⟩
  have HNA : Hid (NetR w10 w9.heap.size bn bm 64 0 []) := by rw [hbm]; exact HN1.out
  have HBM : Hid (w9.heap.size ≤ bm) := by rw [hbm]; exact HBM0.out
  clear hbm HN1 HBM0
  go_wp2_with (first
    | (go_at_call 22; (with_reducible refine (send_arg w10 _ _ _ _ _ _ HNA.out 63 64 _ (by decide)).mono ?_); rintro e w11 ⟨rfl, hx⟩; have HN11 := Lib.hid (HNA.out.ext hx); have HX11 := Lib.hid (HX10.out.trans hx); clear hx)
    | (go_at_call 22; (with_reducible refine (send_arg w11 _ _ _ _ _ _ HN11.out 5 5 _ (by decide)).mono ?_); rintro e w12 ⟨rfl, hx⟩; have HN12 := Lib.hid (HN11.out.ext hx); have HX12 := Lib.hid (HX11.out.trans hx); clear hx)
    | (refine makeN (.const (.int .i64 4097)) (.const (.int .i64 4097)) rfl rfl 4097 rfl rfl (by omega) ?_; intro w13 ho13 hg13; have HN13 := Lib.hid (HN12.out.ext (Below.grown (Below.refl _ _) hg13 (Nat.le_refl _) (by simp))); have HX13 := Lib.hid (HX12.out.trans (Below.grown (Below.refl _ _) hg13 (Nat.le_refl _) (by simp))); clear ho13 hg13)
    | (go_at_call 22; (with_reducible refine (sendL w13 _ _ _ _ _ _ HN13.out 0 63 _ _ _ (by decide) (by decide) (by decide) 0 63 rfl rfl).mono ?_); rintro e w14 ⟨rfl, hx⟩; have HN14 := Lib.hid (HN13.out.ext hx); have HX14 := Lib.hid (HX13.out.trans hx); clear hx)
    | (refine makeN (.const (.int .i64 4096)) (.const (.int .i64 4096)) rfl rfl 4096 rfl rfl (by omega) ?_; intro w15 ho15 hg15; have HB15 := Lib.hid (OwnB.bytes ho15); have HN15 := Lib.hid (HN14.out.ext (Below.grown (Below.refl _ _) hg15 (Nat.le_refl _) (by simp))); have HX15 := Lib.hid (HX14.out.trans (Below.grown (Below.refl _ _) hg15 (Nat.le_refl _) (by simp))); clear ho15 hg15)
    | (go_at_call 22; (with_reducible refine (sendG w15 _ _ _ _ _ 1 _ HN15.out 0 63 _ (List.replicate 4096 0) HB15.out (fun w1 w2 h2 hb => h2.bytes hb (Nat.ne_of_gt HN14.out.bnlt) (Nat.ne_of_gt HN14.out.bmlt)) (by decide) (by decide) (by rw [List.length_replicate]; exact Nat.le_refl _) (by decide) (by decide) 0 63 1 rfl rfl rfl rfl).mono ?_); rintro e w16 ⟨rfl, ⟨h1, hn⟩, h2⟩; have HN16 := Lib.hid hn; have HX16 := Lib.hid (h2.ext HX15.out HBN.out HBM.out); clear hn h2))
  have HK16 : Hid (KN w16 w9.heap.size bn bm 1) := ⟨_, HN16.out, rfl, fun j j1 j2 => ⟨⟨1, 0, 63, List.replicate 4096 0, h1⟩, List.mem_singleton.2 rfl, by show 1 = j; omega⟩⟩
  clear HNA HX10 HN11 HX11 HN12 HX12 HN13 HX13 HN14 HX14 HN15 HX15 HB15 HN16
  go_loopw [25] (fun i wr => ∃ k : Nat, 1 ≤ k ∧ k ≤ 4096 ∧ i = .int .i64 k ∧ Hid (KN wr w9.heap.size bn bm k) ∧ Hid (Ext w9 wr)) (fun i _ => 4096 - (intOf i).toNat)
  case atStart => exact ⟨1, Nat.le_refl _, by omega, rfl, HK16.out, HX16.out⟩
  case round =>
    clear HK16 HX16
    obtain ⟨k, hk1, hk, rfl, hkn, hxr⟩ := hrel
    obtain ⟨L, hn, hl, hj⟩ := hkn.out
    have HN := Lib.hid hn
    have HL := Lib.hid hl
    have HJ := Lib.hid hj
    clear hn hl hj hkn
    by_cases hlt : k < 4096
    · have hI : decide ((k : Int) < 4096) = true := decide_eq_true (by omega)
      have hll : Hid (L.length < 4096) := by show L.length < 4096; rw [HL.out]; exact hlt
      have hkk : Hid (k < 1000000000) := Nat.lt_trans hlt (by decide)
      go_wp2_with (go_at_call 22; (with_reducible refine (sendG wr _ _ _ _ _ (k + 1) _ HN.out 0 1 _ [] (Bytes.nil _) (fun w1 w2 _ _ => Bytes.nil _) (by decide) (by decide) (Nat.zero_le _) hll.out hkk.out 0 1 _ rfl rfl rfl rfl).mono ?_); rintro e w17 ⟨rfl, ⟨h1, hn⟩, h2⟩; have HK17 := Lib.hid (KN.step HL.out HJ.out hn rfl); have HX17 := Lib.hid (h2.ext hxr.out HBN.out HBM.out); clear hn h2)
      go_roundw
      case rel => exact ⟨k + 1, by omega, hlt, by go_num, HK17.out, HX17.out⟩
      case measure => simp [intOf]; omega
    · obtain rfl : k = 4096 := by omega
      obtain ⟨x, hx, hx1⟩ := HJ.out 1 (by decide) (by decide)
      obtain ⟨y, hy, hy2⟩ := HJ.out 2 (by decide) (by decide)
      obtain ⟨L1, L2, hL⟩ := List.append_of_mem hx
      have hym : y ∈ L1 ++ L2 := by
        rw [hL] at hy
        rcases List.mem_append.1 hy with hy | hy
        · exact List.mem_append_left _ hy
        · rcases List.mem_cons.1 hy with rfl | hy
          · omega
          · exact List.mem_append_right _ hy
      have hfl : 4096 ≤ L.length := by rw [HL.out]; exact Nat.le_refl _
      have hll : (L1 ++ L2).length < 4096 := by
        have := HL.out
        rw [hL, List.length_append, List.length_cons] at this
        rw [List.length_append]; omega
      have HXM := Lib.hid hx
      have HX1 := Lib.hid hx1
      have HY2 := Lib.hid hy2
      have HLL := Lib.hid hL
      have HYM := Lib.hid hym
      have HFL := Lib.hid hfl
      have HL2 := Lib.hid hll
      clear hx hx1 hy hy2 hL hym hfl hll
      go_wp2_with (first
        | (go_at_call 22; (with_reducible refine (sendF wr _ _ _ _ _ _ HN.out 0 1 _ _ _ (by decide) (by decide) (Nat.zero_le _) HFL.out 0 1 rfl rfl).mono ?_); rintro e w18 ⟨rfl, hx⟩; have HN18 := Lib.hid (HN.out.ext hx); have HX18 := Lib.hid (hxr.out.trans hx); clear hx)
        | (go_at_call 25; (with_reducible refine (dbF w18 _ _ _ _ _ 1 _ x HN18.out HXM.out HX1.out HFL.out 1 rfl).mono ?_); rintro e w19 ⟨rfl, hx⟩; have HN19 := Lib.hid (HN18.out.ext hx); have HX19 := Lib.hid (HX18.out.trans hx); clear hx)
        | (go_at_call 24; (with_reducible refine (dr_yes w19 _ _ _ _ _ 1 L1 L2 _ _ x HN19.out HLL.out rfl HX1.out 1 rfl).mono ?_); rintro e w20 ⟨rfl, hn, h2⟩; have HN20 := Lib.hid hn; have HX20 := Lib.hid (h2.ext HX19.out HBN.out HBM.out); clear hn h2)
        | (go_at_call 25; (with_reducible refine (db_yes w20 _ _ _ _ _ 4097 2 _ y HN20.out HYM.out HY2.out HL2.out (by decide) 2 4097 rfl rfl rfl).mono ?_); rintro e w21 ⟨rfl, ⟨h1, hn⟩, h2⟩; have HX21 := Lib.hid (h2.ext HX20.out HBN.out HBM.out); clear hn h2)
        | (go_at_call 27; (with_reducible refine (netwakes_any w21).mono ?_); rintro e w22 ⟨rfl, hx⟩; have HX22 := Lib.hid (HX21.out.trans hx); clear hx))
      go_ret
      exact ⟨rfl, HX9.out.trans HX22.out⟩
end Go.Proofs.Ytlgopjfnknjgjaa
