/- The walk through AdsKnown. -/
import Derived.Test.YtabegbelkfhbcaaGreatPk16
namespace Go.Proofs.YtabegbelkfhbcaaGreat
open Go.RowKit Go.MapKept

theorem learn_arg1 (w : World) (b bm : Nat) (T : List KN) (ht : TabR w b bm T) (link pub : Int) (ha : argB link pub 1 = true) :
    Calls Tryz.prog 9 #[.pointer (some ⟨b, 0, none⟩), .int .i64 link, .agg #[.int .i64 pub, .int .u64 1, .slice none 0 0]] w fun e w' => e = .returned (.tuple #[.bool false, .int .i64 1]) ∧ Ext w w' := learn_arg w b bm T ht link pub 1 _ rfl ha
theorem learn_arg0 (w : World) (b bm : Nat) (T : List KN) (ht : TabR w b bm T) (link pub : Int) :
    Calls Tryz.prog 9 #[.pointer (some ⟨b, 0, none⟩), .int .i64 link, .agg #[.int .i64 pub, .int .u64 0, .slice none 0 0]] w fun e w' => e = .returned (.tuple #[.bool false, .int .i64 1]) ∧ Ext w w' := learn_arg w b bm T ht link pub 0 _ rfl (by unfold argB; simp)
theorem learn_mal1 (w : World) (b bm : Nat) (T : List KN) (ht : TabR w b bm T) (h : Value) (p : List C) (hp : PredR w h p) (hm : mayP p = false) :
    Calls Tryz.prog 9 #[.pointer (some ⟨b, 0, none⟩), .int .i64 0, .agg #[.int .i64 0, .int .u64 1, h]] w fun e w' => e = .returned (.tuple #[.bool false, .int .i64 30]) ∧ Ext w w' := learn_mal w b bm T ht 0 0 1 h p hp rfl hm
theorem learn_big (w : World) (b bm : Nat) (ht : TabR w b bm []) :
    Calls Tryz.prog 9 #[.pointer (some ⟨b, 0, none⟩), .int .i64 (-1), .agg #[.int .i64 255, .int .u64 1099511627776, .slice none 0 0]] w fun e w' => e = .returned (.tuple #[.bool true, .int .i64 0]) ∧ (∃ h', TabR w' b bm [⟨-1, 255, 1099511627776, [], h'⟩]) ∧ w.grownBy w' (some bm) := learn_new w b bm [] ht (-1) 255 1099511627776 _ [] (PredR.nil w) rfl rfl rfl
theorem learn_back (w : World) (b bm : Nat) (h0 : Value) (ht : TabR w b bm [⟨-1, 255, 1099511627776, [], h0⟩]) :
    Calls Tryz.prog 9 #[.pointer (some ⟨b, 0, none⟩), .int .i64 (-1), .agg #[.int .i64 255, .int .u64 1, .slice none 0 0]] w fun e w' => e = .returned (.tuple #[.bool true, .int .i64 0]) ∧ (∃ h', TabR w' b bm [⟨-1, 255, 1, [], h'⟩]) ∧ w.grownBy w' (some bm) :=
  learn_ok w b bm [⟨-1, 255, 1099511627776, [], h0⟩] ht (-1) 255 1 _ [] (PredR.nil w) rfl rfl true ⟨-1, 255, 1099511627776, [], h0⟩ rfl (fun h => by cases h) (fun _ => rfl)
theorem bad_row (w : World) : PredR (w.alloc (.cells #[.string ⟨#[]⟩, .int .i64 0, .int .i64 0, .int .i64 0, .string ⟨#[]⟩, .bool false, .slice none 0 0] 53)) (.slice (some ⟨w.heap.size, 0, none⟩) 1 1) [⟨[], 0, ⟨0, 0, [], false⟩, []⟩] := by
  have hr : Row (w.alloc (.cells (csC ⟨⟨[], 0, ⟨0, 0, [], false⟩, []⟩, .slice none 0 0⟩).toArray 53)) 7 (.slice (some ⟨w.heap.size, 0, none⟩) 1 1) 1 (csC ⟨⟨[], 0, ⟨0, 0, [], false⟩, []⟩, .slice none 0 0⟩) :=
    Row.of_own (World.ownsRow_lit (base := w.heap.size) (e := 53) (size := 7) w (csC ⟨⟨[], 0, ⟨0, 0, [], false⟩, []⟩, .slice none 0 0⟩).toArray 1 (Nat.le_refl _) (by decide) rfl)
  exact PredR.mk [⟨⟨[], 0, ⟨0, 0, [], false⟩, []⟩, .slice none 0 0⟩] (by rw [List.flatMap_singleton]; exact hr) fun x hx => by rw [List.mem_singleton.1 hx]; exact SetR.nil _
theorem ov_nil : overlapsF [] [] = true := by kernel_rfl
theorem wants_last (w : World) (b bm : Nat) (h0 : Value) (ht : TabR w b bm [⟨-1, 255, 1, [], h0⟩]) :
    Calls Tryz.prog 16 #[.pointer (some ⟨b, 0, none⟩), .int .i64 (-1), .slice none 0 0] w fun e w' => e = .returned (.bool true) ∧ Ext w w' :=
  wants_lit w b bm _ ht (fun k hk => by rw [List.mem_singleton.1 hk]; exact fun c hc => by cases hc) one_le (-1) _ [] (PredR.nil w) (fun c hc => by cases hc) true (by show ((-1 : Int) == -1 && overlapsF [] [] || false) = true; rw [ov_nil]; rfl)

set_option maxRecDepth 100000 in
set_option maxHeartbeats 16000000 in
theorem adsKnown_walk (W : World) : Calls Tryz.prog 4 #[] W fun e W' => e = .returned (.bool true) ∧ Ext W W' := by
  have hpn : ∀ (w : World), (binOp .neq 28 (.pointer none) (.pointer none)).run Tryz.prog w = .ok (.bool false) w := fun w => by kernel_rfl
  obtain ⟨hxa, hba⟩ := boxes1 W (.cells #[.map none] 45)
  have HX2 := Lib.hid hxa
  have HB2 := Lib.hid hba
  clear hxa hba
  have NN : ∀ w, NilT w (.pointer none) := fun w => .inl rfl
  have hz : ∀ w', Ext (W.alloc (.cells #[.map none] 45)) w' → NilT w' (.pointer (some ⟨W.heap.size, 0, none⟩)) := fun w' hx => .inr ⟨_, rfl, block_later HB2.out hx⟩
  have HZ := Lib.hid hz
  have HNN := Lib.hid NN
  clear hz NN
  have HXZ : Hid (Ext (W.alloc (.cells #[.map none] 45)) (W.alloc (.cells #[.map none] 45))) := Ext.refl _
  go_enter Tryz.func4, Tryz.ntmps4
  go_upto_region 3 with fail
  generalize hb : W.alloc (.cells #[.map none] 45) = w0 at *
  clear hb
  have HX0 := HXZ
  clear HXZ
  go_upto_region 4 with (go_at_call 9; refine (learn_nil _ _ (HNN.out _) 0 0 1 none 0 0).mono ?_; rintro e w1 ⟨rfl, hx⟩; have HX1 := Lib.hid (HX0.out.trans hx); clear hx HX0)
  go_upto_region 5 with (go_at_call 9; refine (learn_nil _ _ (HZ.out _ HX1.out) 0 0 1 none 0 0).mono ?_; rintro e w3 ⟨rfl, hx⟩; have HX3 := Lib.hid (HX1.out.trans hx); clear hx HX1)
  go_upto_region 6 with (go_at_call 8; refine (bypub_nil _ _ (HZ.out _ HX3.out) 0).mono ?_; rintro e w4 ⟨rfl, hx⟩; have HX4 := Lib.hid (HX3.out.trans (hx.trans ((Ext.refl w4).alloc (.cells #[.int .i64 0, .int .u64 0, .slice none 0 0] 30)))); clear hx HX3)
  generalize w4.alloc (.cells #[.int .i64 0, .int .u64 0, .slice none 0 0] 30) = w5 at *
  go_upto_region 8 with (first
    | (go_at_call 14; refine (withdraw_nil _ _ (HNN.out _) 0 0).mono ?_; rintro e w6 ⟨rfl, hx⟩; have HX6 := Lib.hid (HX4.out.trans hx); clear hx HX4)
    | (go_at_call 15; refine (forget_nil _ _ (HNN.out _) 0).mono ?_; rintro e w7 ⟨rfl, hx⟩; have HX7 := Lib.hid (HX6.out.trans hx); clear hx HX6)
    | (go_at_call 13; refine (tall_nil _ _ (HZ.out _ HX7.out)).mono ?_; rintro e w8 ⟨rfl, hx⟩; have HX8 := Lib.hid (HX7.out.trans hx); clear hx HX7)
    | (go_at_call 16; refine (wants_nil _ _ (HNN.out _) 0).mono ?_; rintro e w9 ⟨rfl, hx⟩; have HX9 := Lib.hid (HX8.out.trans hx); clear hx HX8)
    | (go_at_call 12; refine (copy_nil _ _ (HNN.out _)).mono ?_; rintro e w10 ⟨rfl, hx⟩; have HX10 := Lib.hid (HX9.out.trans hx); clear hx HX9))
  clear HZ HNN
  go_upto_region 9 with (go_at_call 17; (with_reducible refine (new_any _).mono ?_); rintro e w11 ⟨b, bm, rfl, ht, hb1, hb2, hx⟩; have HT11 := Lib.hid ht; have HBM : Hid (W.heap.size ≤ bm) := Nat.le_trans (HX2.out.trans HX10.out).size hb2; have HX11 := Lib.hid ((HX2.out.trans HX10.out).trans hx); clear ht hb1 hb2 hx HX10 HX2)
  go_upto_region 10 with (go_at_call 9; refine (learn_arg1 _ b bm _ HT11.out (-2) 0 rfl).mono ?_; rintro e w12 ⟨rfl, hx⟩; have HT12 := Lib.hid (HT11.out.ext hx); have HX12 := Lib.hid (HX11.out.trans hx); clear hx HX11 HT11)
  go_upto_region 11 with (go_at_call 9; refine (learn_arg1 _ b bm _ HT12.out 64 0 rfl).mono ?_; rintro e w13 ⟨rfl, hx⟩; have HT13 := Lib.hid (HT12.out.ext hx); have HX13 := Lib.hid (HX12.out.trans hx); clear hx HX12 HT12)
  go_upto_region 12 with (go_at_call 9; refine (learn_arg1 _ b bm _ HT13.out 0 256 rfl).mono ?_; rintro e w14 ⟨rfl, hx⟩; have HT14 := Lib.hid (HT13.out.ext hx); have HX14 := Lib.hid (HX13.out.trans hx); clear hx HX13 HT13)
  go_upto_region 13 with (go_at_call 9; refine (learn_arg0 _ b bm _ HT14.out 0 0).mono ?_; rintro e w15 ⟨rfl, hx⟩; have HT15 := Lib.hid (HT14.out.ext hx); have HX15 := Lib.hid (HX14.out.trans hx); clear hx HX14 HT14)
  have hxb := (Ext.refl w15).alloc (.cells #[.string ⟨#[]⟩, .int .i64 0, .int .i64 0, .int .i64 0, .string ⟨#[]⟩, .bool false, .slice none 0 0] 53)
  have HT16 := Lib.hid (HT15.out.ext hxb)
  have HX16 := Lib.hid (HX15.out.trans hxb)
  clear hxb HT15 HX15
  go_upto_region 14 with (go_at_call 9; refine (learn_mal1 _ b bm _ HT16.out _ [⟨[], 0, ⟨0, 0, [], false⟩, []⟩] (bad_row w15) rfl).mono ?_; rintro e w17 ⟨rfl, hx⟩; have HT17 := Lib.hid (HT16.out.ext hx); have HX17 := Lib.hid (HX16.out.trans hx); clear hx HX16 HT16)
  go_upto_region 15 with (go_at_call 9; refine (learn_big _ b bm HT17.out).mono ?_; rintro e w18 ⟨rfl, ⟨h18, ht⟩, hg⟩; have HT18 := Lib.hid ht; have HX18 := Lib.hid (ext_grown HX17.out hg HBM.out); clear ht hg HX17 HT17)
  go_upto_region 16 with (go_at_call 9; refine (learn_back _ b bm h18 HT18.out).mono ?_; rintro e w19 ⟨rfl, ⟨h19, ht⟩, hg⟩; have HT19 := Lib.hid ht; have HX19 := Lib.hid (ext_grown HX18.out hg HBM.out); clear ht hg HX18 HT18)
  go_wp2_with (first
    | (go_at_call 16; refine (wants_last _ b bm h19 HT19.out).mono ?_; rintro e w20 ⟨rfl, hx⟩; have HX20 := Lib.hid (HX19.out.trans hx); clear hx)
    | (go_at_call 10; (with_reducible refine (wakes_any _).mono ?_); rintro e w21 ⟨rfl, hx⟩; have HX21 := Lib.hid (HX20.out.trans hx); clear hx))
  go_ret
  exact ⟨rfl, HX21.out⟩
end Go.Proofs.YtabegbelkfhbcaaGreat
