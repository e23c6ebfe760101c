/- DiskKnown, walked. -/
import Derived.Test.YtdfnfmanpdafpaaDoorD40
import Derived.Deep.CutBlock
namespace Go.Proofs.YtdfnfmanpdafpaaDoor
open Go.RowKit

theorem name_run (W : World) (k : Nat) (hk : k < 512) : ∃ sb : ByteArray, (convert 24 9 (.slice (some ⟨W.heap.size, 0, none⟩) 2 2)).run Tryd.prog (W.alloc (.cells #[.int .u8 (97 + (k : Int) % 26), .int .u8 (97 + (k : Int) / 26)] 5)) = .ok (.string sb) (W.alloc (.cells #[.int .u8 (97 + (k : Int) % 26), .int .u8 (97 + (k : Int) / 26)] 5)) ∧
    (⟨#[102]⟩ : ByteArray) ++ sb = strOf (nmK k) ∧ ¬ 9223372036854775807 < 1 + sb.size := by
  have hb := lit_bytesD W [UInt8.ofNat (97 + k % 26), UInt8.ofNat (97 + k / 26)] #[.int .u8 (97 + (k : Int) % 26), .int .u8 (97 + (k : Int) / 26)] 2 rfl (by
    unfold bV
    simp only [List.map_cons, List.map_nil]
    rw [u8_small (by omega), u8_small (by omega)]
    congr 2 <;> congr 1 <;> omega) (by unfold maxLen; omega)
  exact ⟨_, run_bytes_str _ 24 9 5 Tryd.underlying24 Tryd.underlying5 Tryd.underlying9 hb, rfl, by show ¬ 9223372036854775807 < 1 + 2; omega⟩
theorem kn_create {w W : World} {b : Nat} {S S' : DS} {c : Int} (h : AtD w b S W) (h1 : askdE S (createL S moreN) = c) (h2 : askdS S (createL S moreN) (createA moreN) = S') :
    Calls Tryd.prog 19 #[.pointer (some ⟨b, 0, none⟩), .string ⟨#[109, 111, 114, 101]⟩] W fun e w' => e = .returned (.int .i64 c) ∧ AtD w b S' w' := AtD.create h moreN c h1 h2
theorem kn_rename {w W : World} {b : Nat} {S S' : DS} {c : Int} (h : AtD w b S W) (h1 : askdE S (renameL S faaN fbaN) = c) (h2 : askdS S (renameL S faaN fbaN) (renameA faaN fbaN) = S') :
    Calls Tryd.prog 20 #[.pointer (some ⟨b, 0, none⟩), .string ⟨#[102, 97, 97]⟩, .string ⟨#[102, 98, 97]⟩] W fun e w' => e = .returned (.int .i64 c) ∧ AtD w b S' w' := AtD.rename h faaN fbaN c h1 h2
theorem kn_trunc {w W : World} {b : Nat} {S S' : DS} {c : Int} (h : AtD w b S W) (z : Int) (hz : z < 9223372036854775808) (h1 : askdE S (truncL S moreN z) = c) (h2 : askdS S (truncL S moreN z) (truncA moreN z) = S') :
    Calls Tryd.prog 21 #[.pointer (some ⟨b, 0, none⟩), .string ⟨#[109, 111, 114, 101]⟩, .int .i64 z] W fun e w' => e = .returned (.int .i64 c) ∧ AtD w b S' w' := AtD.trunc h moreN z hz c h1 h2
theorem kn_remove {w W : World} {b : Nat} {S S' : DS} {c : Int} (h : AtD w b S W) (h1 : askdE S (syncL S faaN) = c) (h2 : askdS S (syncL S faaN) (removeA faaN) = S') :
    Calls Tryd.prog 22 #[.pointer (some ⟨b, 0, none⟩), .string ⟨#[102, 97, 97]⟩] W fun e w' => e = .returned (.int .i64 c) ∧ AtD w b S' w' := AtD.remove h faaN c h1 h2
theorem kn_sync {w W : World} {b : Nat} {S S' : DS} {c : Int} (h : AtD w b S W) (h1 : askdE S (syncL S moreN) = c) (h2 : askdS S (syncL S moreN) (syncA moreN) = S') :
    Calls Tryd.prog 25 #[.pointer (some ⟨b, 0, none⟩), .string ⟨#[109, 111, 114, 101]⟩] W fun e w' => e = .returned (.int .i64 c) ∧ AtD w b S' w' := AtD.sync h moreN c h1 h2
theorem kn_app0 {w W : World} {b : Nat} {S S' : DS} {c : Int} (h : AtD w b S W) (h1 : askdE S (appendL S moreN 0) = c) (h2 : askdS S (appendL S moreN 0) (appendA moreN []) = S') :
    Calls Tryd.prog 24 #[.pointer (some ⟨b, 0, none⟩), .string ⟨#[109, 111, 114, 101]⟩, .slice none 0 0] W fun e w' => e = .returned (.int .i64 c) ∧ AtD w b S' w' := AtD.append h (Ext.refl _) moreN none 0 0 [] (Bytes.nil _) (fun B o e => by cases e) c h1 h2
theorem kn_app1 {w : World} (W : World) {b : Nat} {S S' : DS} {c : Int} (h : AtD w b S W) (h1 : askdE S (appendL S moreN 1) = c) (h2 : askdS S (appendL S moreN 1) (appendA moreN [1]) = S') :
    Calls Tryd.prog 24 #[.pointer (some ⟨b, 0, none⟩), .string ⟨#[109, 111, 114, 101]⟩, .slice (some ⟨W.heap.size, 0, none⟩) 1 1] (W.alloc (.cells #[.int .u8 1] 5)) fun e w' => e = .returned (.int .i64 c) ∧ AtD w b S' w' :=
  AtD.append h ((Ext.refl _).alloc _) moreN _ 1 1 [1] (lit_bytesD _ _ _ 1 rfl rfl (by unfold maxLen; omega)) (fun B o e => by cases e; exact Nat.le_refl _) c h1 h2
theorem kn_size {w W : World} {b : Nat} {S : DS} (h : AtD w b S W) (h1 : firstE (syncL S moreN) = 8) (h2 : (readS S moreN).length = 0) :
    Calls Tryd.prog 26 #[.pointer (some ⟨b, 0, none⟩), .string ⟨#[109, 111, 114, 101]⟩] W fun e w' => e = .returned (.tuple #[.int .i64 0, .int .i64 8]) ∧ AtD w b S w' := AtD.size h moreN 8 0 h1 h2
theorem kn_read (W : World) : Calls Tryd.prog 10 #[.pointer none, .string ⟨#[97]⟩] W fun e w' => e = .returned (.tuple #[.slice none 0 0, .int .i64 2]) ∧ Ext W w' := read_nil W [97]
theorem kn_createN (W : World) : Calls Tryd.prog 19 #[.pointer none, .string ⟨#[97]⟩] W fun e w' => e = .returned (.int .i64 2) ∧ Ext W w' := create_nil W [97]
theorem kn_appN (W : World) : Calls Tryd.prog 24 #[.pointer none, .string ⟨#[97]⟩, .slice none 0 0] W fun e w' => e = .returned (.int .i64 2) ∧ Ext W w' := append_nil W [97] _ ⟨_, _, _, rfl⟩
theorem kn_syncN (W : World) : Calls Tryd.prog 25 #[.pointer none, .string ⟨#[97]⟩] W fun e w' => e = .returned (.int .i64 2) ∧ Ext W w' := sync_nil W [97]
theorem kn_renN (W : World) : Calls Tryd.prog 20 #[.pointer none, .string ⟨#[97]⟩, .string ⟨#[98]⟩] W fun e w' => e = .returned (.int .i64 2) ∧ Ext W w' := rename_nil W [97] [98]
theorem kn_truncN (W : World) : Calls Tryd.prog 21 #[.pointer none, .string ⟨#[97]⟩, .int .i64 0] W fun e w' => e = .returned (.int .i64 2) ∧ Ext W w' := truncate_nil W [97] 0
theorem kn_remN (W : World) : Calls Tryd.prog 22 #[.pointer none, .string ⟨#[97]⟩] W fun e w' => e = .returned (.int .i64 2) ∧ Ext W w' := remove_nil W [97]
theorem kn_looseN (W : World) : Calls Tryd.prog 11 #[.pointer none, .string ⟨#[97]⟩] W fun e w' => e = .returned (.int .i64 0) ∧ Ext W w' := loose_nil W [97]
theorem kn_may0 (W : World) : Calls Tryd.prog 28 #[.string ⟨#[]⟩] W fun e w' => e = .returned (.bool false) ∧ Ext W w' := may_any W []
theorem kn_may1 (W : World) : Calls Tryd.prog 28 #[.string ⟨#[97, 95, 98]⟩] W fun e w' => e = .returned (.bool false) ∧ Ext W w' := may_any W [97, 95, 98]
theorem kn_may2 (W : World) : Calls Tryd.prog 28 #[.string ⟨#[97, 46, 98, 45, 48]⟩] W fun e w' => e = .returned (.bool true) ∧ Ext W w' := may_any W [97, 46, 98, 45, 48]
theorem kn_may3 (W : World) : Calls Tryd.prog 28 #[.string ⟨#[49, 50, 51, 52, 53, 54, 55, 56, 57, 48, 49, 50, 51, 52, 53, 54, 55, 56, 57, 48, 49, 50, 51, 52, 53, 54, 55, 56, 57, 48, 49, 50, 51]⟩] W fun e w' => e = .returned (.bool false) ∧ Ext W w' := may_any W [49, 50, 51, 52, 53, 54, 55, 56, 57, 48, 49, 50, 51, 52, 53, 54, 55, 56, 57, 48, 49, 50, 51, 52, 53, 54, 55, 56, 57, 48, 49, 50, 51]
set_option maxRecDepth 100000 in
set_option maxHeartbeats 8000000 in
theorem diskKnown_walk (w : World) : Calls Tryd.prog 5 #[] w fun e w' => e = .returned (.bool true) ∧ Ext w w' := by
  go_enter Tryd.func5, Tryd.ntmps5
  go_upto_region 3 with (go_at_call 7; (with_reducible refine (awakeD _).mono ?_); rintro e w1 ⟨rfl, hx⟩; have HX := Lib.hid hx; clear hx)
  go_upto_region 4 with (go_at_call 6; (with_reducible refine (AtD.new w _ HX.out 4194304 (by omega) (by omega)).mono ?_); rintro e w2 ⟨b, rfl, h⟩; have H0 := Lib.hid h; clear h HX)
  go_wp2_with fail
  go_loopw [36] (fun i wr => ∃ (k : Nat) (S : DS), k ≤ 512 ∧ i = .int .i64 k ∧ Hid (AtD w b S wr) ∧ Hid (Full k S)) (fun i _ => 512 - (intOf i).toNat)
  case atStart => exact ⟨0, _, Nat.zero_le _, rfl, H0.out, Full.start⟩
  case round =>
    clear H0
    obtain ⟨k, S, hk, rfl, HA, HF⟩ := hrel
    by_cases hlt : k < 512
    · have hI : decide ((k : Int) < 512) = true := decide_eq_true (by omega)
      have hkN : (k : Int) < 512 := by omega
      obtain ⟨st1, st2⟩ := HF.out.step hlt
      have HS := Lib.hid (And.intro st1 st2)
      clear st1 st2
      go_upto_region 7 with fail
      obtain ⟨sb, hcv, hsb, hsz⟩ := name_run wr k hlt
      have HSB := Lib.hid hsb
      clear hsb
      go_wp2_with (go_at_call 19; (rw [HSB.out]; refine (AtD.create (HA.out.ext ((Ext.refl _).alloc _)) (nmK k) 0 HS.out.1 rfl).mono ?_); rintro e w5 ⟨rfl, h⟩; have H1 := Lib.hid h; clear h HA)
      go_roundw
      case rel => exact ⟨k + 1, _, hlt, by go_num, H1.out, HS.out.2⟩
      case measure => simp [intOf]; omega
    · obtain rfl : k = 512 := by omega
      have hI : decide (((512 : Nat) : Int) < 512) = false := by decide
      obtain ⟨s1, m1, m2, F1, l1⟩ := HF.out.ren
      obtain ⟨s2, m3, m4, F2⟩ := F1.make l1
      obtain ⟨s3, m5, m6, F3⟩ := F2.quota0
      obtain ⟨s4, m7, m8, F4⟩ := F3.app0
      obtain ⟨s5, m9, m10, F5⟩ := F4.fuse0
      obtain ⟨s6, m11, m12, F6⟩ := F5.burn
      have G1 := Lib.hid HF.out.c4
      have G2 := Lib.hid (And.intro m1 m2)
      have G3 := Lib.hid (And.intro m3 m4)
      have G4 := Lib.hid F2.again
      have G5 := Lib.hid F2.cut1
      have G6 := Lib.hid F2.cutN
      have G7 := Lib.hid F2.gone
      have G8 := Lib.hid (And.intro m5 m6)
      have G9 := Lib.hid (And.intro m7 m8)
      have G10 := Lib.hid F4.app1
      have G11 := Lib.hid F4.fuseN
      have G12 := Lib.hid (And.intro m9 m10)
      have G13 := Lib.hid (And.intro m11 m12)
      have G14 := Lib.hid F6.fuse1
      have G15 := Lib.hid F6.size8
      clear m1 m2 F1 l1 m3 m4 F2 m5 m6 F3 m7 m8 F4 m9 m10 F5 m11 m12 F6 HF hk hlt
      have A0 := HA
      clear HA
      go_upto_region 11 with (go_at_call 19; (with_reducible refine (kn_create A0.out G1.out.1 G1.out.2).mono ?_); rintro e v1 ⟨rfl, h⟩; have A1 := Lib.hid h; clear h A0)
      go_upto_region 12 with (go_at_call 20; (with_reducible refine (kn_rename A1.out G2.out.1 G2.out.2).mono ?_); rintro e v2 ⟨rfl, h⟩; have A2 := Lib.hid h; clear h A1)
      go_upto_region 13 with (go_at_call 19; (with_reducible refine (kn_create A2.out G3.out.1 G3.out.2).mono ?_); rintro e v3 ⟨rfl, h⟩; have A3 := Lib.hid h; clear h A2)
      go_upto_region 14 with (first
        | (go_at_call 19; (with_reducible refine (kn_create A3.out G4.out.1 G4.out.2).mono ?_); rintro e v4 ⟨rfl, h⟩; have A4 := Lib.hid h; clear h A3)
        | (go_at_call 21; (with_reducible refine (kn_trunc A4.out 1 (by omega) G5.out.1 G5.out.2).mono ?_); rintro e v5 ⟨rfl, h⟩; have A5 := Lib.hid h; clear h A4))
      go_upto_region 15 with (first
        | (go_at_call 21; (with_reducible refine (kn_trunc A5.out (-1) (by omega) G6.out.1 G6.out.2).mono ?_); rintro e v6 ⟨rfl, h⟩; have A6 := Lib.hid h; clear h A5)
        | (go_at_call 22; (with_reducible refine (kn_remove A6.out G7.out.1 G7.out.2).mono ?_); rintro e v7 ⟨rfl, h⟩; have A7 := Lib.hid h; clear h A6))
      go_upto_region 16 with (first
        | (go_at_call 23; (with_reducible refine (AtD.quota A7.out 0 (by omega) 0 G8.out.1 G8.out.2).mono ?_); rintro e v8 ⟨rfl, h⟩; have A8 := Lib.hid h; clear h A7)
        | (go_at_call 24; (with_reducible refine (kn_app0 A8.out G9.out.1 G9.out.2).mono ?_); rintro e v9 ⟨rfl, h⟩; have A9 := Lib.hid h; clear h A8))
      go_upto_region 17 with (first
        | (go_at_call 24; (with_reducible refine (kn_app1 _ A9.out G10.out.1 G10.out.2).mono ?_); rintro e v10 ⟨rfl, h⟩; have A10 := Lib.hid h; clear h A9)
        | (go_at_call 23; (with_reducible refine (AtD.quota A10.out (-1) (by omega) 1 (Hd.quotaN s4).1 (Hd.quotaN s4).2).mono ?_); rintro e v11 ⟨rfl, h⟩; have A11 := Lib.hid h; clear h A10))
      go_upto_region 18 with (first
        | (go_at_call 16; (with_reducible refine (AtD.fuse A11.out (-2) (by omega) 1 G11.out.1 G11.out.2).mono ?_); rintro e v12 ⟨rfl, h⟩; have A12 := Lib.hid h; clear h A11)
        | (go_at_call 16; (with_reducible refine (AtD.fuse A12.out 0 (by omega) 0 G12.out.1 G12.out.2).mono ?_); rintro e v13 ⟨rfl, h⟩; have A13 := Lib.hid h; clear h A12))
      go_upto_region 19 with (first
        | (go_at_call 25; (with_reducible refine (kn_sync A13.out G13.out.1 G13.out.2).mono ?_); rintro e v14 ⟨rfl, h⟩; have A14 := Lib.hid h; clear h A13)
        | (go_at_call 16; (with_reducible refine (AtD.fuse A14.out 1 (by omega) 8 G14.out.1 G14.out.2).mono ?_); rintro e v15 ⟨rfl, h⟩; have A15 := Lib.hid h; clear h A14))
      go_upto_region 20 with (go_at_call 26; (with_reducible refine (kn_size A15.out G15.out.1 G15.out.2).mono ?_); rintro e v16 ⟨rfl, h⟩; have A16 := Lib.hid h; clear h A15)
      go_upto_region 21 with (go_at_call 6; (with_reducible refine (new_noD _ (-1) (.inl (by omega))).mono ?_); rintro e v17 ⟨rfl, rfl⟩)
      go_upto_region 22 with (go_at_call 6; (with_reducible refine (new_noD _ 4194305 (.inr (by omega))).mono ?_); rintro e v18 ⟨rfl, rfl⟩)
      clear G1 G2 G3 G4 G5 G6 G7 G8 G9 G10 G11 G12 G13 G14 G15
      go_wp2_with (first
        | (go_at_call 10; (with_reducible refine (kn_read _).mono ?_); rintro e v19 ⟨rfl, hx⟩; replace A16 := Lib.hid (A16.out.ext hx); clear hx)
        | (go_at_call 23; (with_reducible refine (AtD.quota A16.out 5 (by omega) 0 (Hd.quota5 s6).1 (Hd.quota5 s6).2).mono ?_); rintro e v20 ⟨rfl, h⟩; have HX := Lib.hid h.out; clear h A16)
        | (go_at_call 19; (with_reducible refine (kn_createN _).mono ?_); rintro e v21 ⟨rfl, hx⟩; replace HX := Lib.hid (HX.out.trans hx); clear hx)
        | (go_at_call 24; (with_reducible refine (kn_appN _).mono ?_); rintro e v22 ⟨rfl, hx⟩; replace HX := Lib.hid (HX.out.trans hx); clear hx)
        | (go_at_call 25; (with_reducible refine (kn_syncN _).mono ?_); rintro e v23 ⟨rfl, hx⟩; replace HX := Lib.hid (HX.out.trans hx); clear hx)
        | (go_at_call 20; (with_reducible refine (kn_renN _).mono ?_); rintro e v24 ⟨rfl, hx⟩; replace HX := Lib.hid (HX.out.trans hx); clear hx)
        | (go_at_call 21; (with_reducible refine (kn_truncN _).mono ?_); rintro e v25 ⟨rfl, hx⟩; replace HX := Lib.hid (HX.out.trans hx); clear hx)
        | (go_at_call 22; (with_reducible refine (kn_remN _).mono ?_); rintro e v26 ⟨rfl, hx⟩; replace HX := Lib.hid (HX.out.trans hx); clear hx)
        | (go_at_call 23; (with_reducible refine (quota_nil _ 0).mono ?_); rintro e v27 ⟨rfl, hx⟩; replace HX := Lib.hid (HX.out.trans hx); clear hx)
        | (go_at_call 16; (with_reducible refine (fuse_nil _ 0).mono ?_); rintro e v28 ⟨rfl, hx⟩; replace HX := Lib.hid (HX.out.trans hx); clear hx)
        | (go_at_call 12; (with_reducible refine (crash_nil _ _ _).mono ?_); rintro e v29 ⟨rfl, hx⟩; replace HX := Lib.hid (HX.out.trans hx); clear hx)
        | (go_at_call 18; (with_reducible refine (off_nil _).mono ?_); rintro e v30 ⟨rfl, hx⟩; replace HX := Lib.hid (HX.out.trans hx); clear hx)
        | (go_at_call 9; (with_reducible refine (names_nil _).mono ?_); rintro e v31 ⟨rfl, hx⟩; replace HX := Lib.hid (HX.out.trans hx); clear hx)
        | (go_at_call 27; (with_reducible refine (used_nil _).mono ?_); rintro e v32 ⟨rfl, hx⟩; replace HX := Lib.hid (HX.out.trans hx); clear hx)
        | (go_at_call 11; (with_reducible refine (kn_looseN _).mono ?_); rintro e v33 ⟨rfl, hx⟩; replace HX := Lib.hid (HX.out.trans hx); clear hx)
        | (go_at_call 28; (with_reducible refine (kn_may0 _).mono ?_); rintro e v34 ⟨rfl, hx⟩; replace HX := Lib.hid (HX.out.trans hx); clear hx)
        | (go_at_call 28; (with_reducible refine (kn_may1 _).mono ?_); rintro e v35 ⟨rfl, hx⟩; replace HX := Lib.hid (HX.out.trans hx); clear hx)
        | (go_at_call 28; (with_reducible refine (kn_may2 _).mono ?_); rintro e v36 ⟨rfl, hx⟩; replace HX := Lib.hid (HX.out.trans hx); clear hx)
        | (go_at_call 28; (with_reducible refine (kn_may3 _).mono ?_); rintro e v37 ⟨rfl, hx⟩; replace HX := Lib.hid (HX.out.trans hx); clear hx))
      exact bodyPost_ret (v := .bool true) (by simp [results, Tryd.results5, go_sem]) rfl ⟨rfl, HX.out⟩
end Go.Proofs.YtdfnfmanpdafpaaDoor
