/- wakes (18): the chapter's rows. -/
import Derived.Test.YtlgopjfnknjgjaaD10
namespace Go.Proofs.Ytlgopjfnknjgjaa
open Go.RowKit Go.MapKept

theorem st_lit (w : World) (cs : List (List UInt8)) (hc : cs.length ≤ 1000) : StR (w.alloc (.cells (cs.map stC).toArray 9)) (.slice (some ⟨w.heap.size, 0, none⟩) cs.length cs.length) cs := by
  have := Row.of_own (World.ownsRow_lit (base := w.heap.size) (e := 9) (size := 1) w (cs.map stC).toArray cs.length (Nat.le_refl _) (by unfold maxLen; omega) (by simp))
  simpa [StR] using this
def NumsAt (base : Nat) (w : World) (a : Option Addr) (l : List Nat) : Prop := ∀ (j x : Nat), l[j]? = some x → ∃ g, a = some ⟨g, 0, none⟩ ∧ base ≤ g ∧ w.cell? ⟨g, j, none⟩ = some (.int .u64 x)
def ItemsAt (base : Nat) (w : World) (a : Option Addr) (l : List IT) : Prop := ∀ (j : Nat) (x : IT), l[j]? = some x → ∃ g, a = some ⟨g, 0, none⟩ ∧ base ≤ g ∧ w.cell? ⟨g, j * 4, none⟩ = some (.int .u64 x.n)
theorem own_g {w : World} {base size n : Nat} {e : TypeId} {v : Value} {xs : List Value} (h : w.ownsRow base e size v n xs) (hn : 0 < n) : ∃ g cap, v = .slice (some ⟨g, 0, none⟩) n cap ∧ base ≤ g ∧ ∀ j u, xs[j]? = some u → w.cell? ⟨g, j, none⟩ = some u := by
  have hr := Row.of_own h
  rcases h.2 with ⟨rfl, e0⟩ | ⟨g, cap, cur, rfl, hb, _⟩
  · omega
  · refine ⟨g, cap, rfl, hb, fun j u hj => ?_⟩
    have := Row.cellAt hr hj hn
    simpa using this
theorem dbl_lit (w : World) (vl : Value) (us : List IT) (l : List Nat) (hi : ItemR w vl us) (hl : us.length ≤ 12) (hb : ∀ x ∈ us, x.n < 18446744073709551616) (he : doublesF (us.map nkOf) = l) :
    Calls Try.prog 12 #[vl] w fun e w' => ∃ a cap, e = .returned (.slice a l.length cap) ∧ NumsAt w.heap.size w' a l ∧ Ext w w' := by
  refine (doubles_any sort12 w vl us hi (by omega) hl hb).mono ?_
  rintro e w' ⟨v, rfl, h1, h2⟩
  rw [he] at h1
  cases l with
  | nil =>
    obtain ⟨a, cap, rfl, _, _⟩ := own_shape h1
    exact ⟨a, cap, rfl, fun j x h => by simp at h, h2⟩
  | cons y l =>
    obtain ⟨g, cap, rfl, hb0, hc⟩ := own_g h1 (by simp)
    exact ⟨_, cap, rfl, fun j x h => ⟨g, rfl, hb0, hc j _ (by rw [List.getElem?_map, h]; rfl)⟩, h2⟩
theorem stay_lit (w : World) (vl : Value) (us l : List IT) (hi : ItemR w vl us) (hl : us.length ≤ 12) (he : staysI us = l) :
    Calls Try.prog 13 #[vl] w fun e w' => ∃ a cap, e = .returned (.slice a l.length cap) ∧ ItemsAt w.heap.size w' a l ∧ Ext w w' := by
  refine (stays_any w vl us hi (by omega)).mono ?_
  rintro e w' ⟨v, rfl, h1, h2⟩
  rw [he] at h1
  cases l with
  | nil =>
    obtain ⟨a, cap, rfl, _, _⟩ := own_shape h1
    exact ⟨a, cap, rfl, fun j x h => by simp at h, h2⟩
  | cons y l =>
    obtain ⟨g, cap, rfl, hb0, hc⟩ := own_g h1 (by simp)
    refine ⟨_, cap, rfl, fun j x h => ⟨g, rfl, hb0, hc _ _ ?_⟩, h2⟩
    have hj : j < (y :: l).length := (List.getElem?_eq_some_iff.1 h).1
    have := flat_get iC 4 iC_len (y :: l) j hj 0 (by decide)
    rw [Nat.add_zero] at this
    rw [this]
    have hx : (y :: l)[j] = x := by have := List.getElem?_eq_getElem hj; rw [h] at this; exact (Option.some.inj this).symm
    rw [hx]; rfl
theorem keyed_b (ks : List (List UInt8)) (h : ks.length ≤ 1000) : ∀ x ∈ keyedI ks, x.n < 18446744073709551616 := fun x hx => by have := keyedI_small ks x hx; omega
def kA : List (List UInt8) := [[97], [98], [97], [], []]
def kB : List (List UInt8) := [[97], [97], [97]]
theorem kA_d : doublesF ((keyedI kA).map nkOf) = [1] := by decide
theorem kB_d : doublesF ((keyedI kB).map nkOf) = [1, 2] := by decide
theorem kA_s : staysI (keyedI kA) = [kIt 2 [98], kIt 3 [97], kIt 4 [], kIt 5 []] := by kernel_rfl

set_option maxRecDepth 100000 in
set_option maxHeartbeats 8000000 in
theorem wakes_any (w : World) : Calls Try.prog 18 #[] w fun e w' => e = .returned (.bool true) ∧ Ext w w' := by
  go_enter Try.func18, Try.ntmps18
  have hs1 : StR (w.alloc (.cells #[.string ⟨#[97]⟩, .string ⟨#[98]⟩, .string ⟨#[97]⟩, .string ⟨#[]⟩, .string ⟨#[]⟩] 9)) (.slice (some ⟨w.heap.size, 0, none⟩) 5 5) kA := st_lit w kA (by decide)
  have hxa1 : Ext w (w.alloc (.cells #[.string ⟨#[97]⟩, .string ⟨#[98]⟩, .string ⟨#[97]⟩, .string ⟨#[]⟩, .string ⟨#[]⟩] 9)) := (Ext.refl w).alloc _
  have HS1 := Lib.hid hs1
  have HA1 := Lib.hid hxa1
  clear hs1 hxa1
  go_upto_region 2 with (first | (go_at_call 20; (with_reducible refine (keyed_any _ _ _ HS1.out (by decide)).mono ?_); rintro e k1 ⟨v1, rfl, h, hx⟩; have HK1 := Lib.hid (OwnI.item h (keyedI_hs _)); have HB1 := Lib.hid (HA1.out.trans hx); clear h hx) | (go_at_call 12; (with_reducible refine (dbl_lit _ _ _ _ HK1.out (by decide) (keyed_b _ (by decide)) kA_d).mono ?_); rintro e w1 ⟨a1, c1, rfl, h, hx⟩; have HV1 := Lib.hid h; have HX1 := Lib.hid (HB1.out.trans hx); have HY1 := Lib.hid hx; clear h hx))
  have hs2 : StR (w1.alloc (.cells #[.string ⟨#[97]⟩, .string ⟨#[97]⟩, .string ⟨#[97]⟩] 9)) (.slice (some ⟨w1.heap.size, 0, none⟩) 3 3) kB := st_lit w1 kB (by decide)
  have hxa2 : Ext w1 (w1.alloc (.cells #[.string ⟨#[97]⟩, .string ⟨#[97]⟩, .string ⟨#[97]⟩] 9)) := (Ext.refl w1).alloc _
  have HS2 := Lib.hid hs2
  have HA2 := Lib.hid hxa2
  clear hs2 hxa2
  go_upto_region 3 with (first | (go_at_call 20; (with_reducible refine (keyed_any _ _ _ HS2.out (by decide)).mono ?_); rintro e k2 ⟨v2, rfl, h, hx⟩; have HK2 := Lib.hid (OwnI.item h (keyedI_hs _)); have HB2 := Lib.hid (HA2.out.trans hx); clear h hx) | (go_at_call 12; (with_reducible refine (dbl_lit _ _ _ _ HK2.out (by decide) (keyed_b _ (by decide)) kB_d).mono ?_); rintro e w2 ⟨a2, c2, rfl, h, hx⟩; have HV2 := Lib.hid h; have HX2 := Lib.hid (HB2.out.trans hx); have HY2 := Lib.hid hx; clear h hx))
  have hs3 : StR (w2.alloc (.cells #[.string ⟨#[97]⟩, .string ⟨#[98]⟩, .string ⟨#[97]⟩, .string ⟨#[]⟩, .string ⟨#[]⟩] 9)) (.slice (some ⟨w2.heap.size, 0, none⟩) 5 5) kA := st_lit w2 kA (by decide)
  have hxa3 : Ext w2 (w2.alloc (.cells #[.string ⟨#[97]⟩, .string ⟨#[98]⟩, .string ⟨#[97]⟩, .string ⟨#[]⟩, .string ⟨#[]⟩] 9)) := (Ext.refl w2).alloc _
  have HS3 := Lib.hid hs3
  have HA3 := Lib.hid hxa3
  clear hs3 hxa3
  go_upto_region 4 with (first | (go_at_call 20; (with_reducible refine (keyed_any _ _ _ HS3.out (by decide)).mono ?_); rintro e k3 ⟨v3, rfl, h, hx⟩; have HK3 := Lib.hid (OwnI.item h (keyedI_hs _)); have HB3 := Lib.hid (HA3.out.trans hx); clear h hx) | (go_at_call 13; (with_reducible refine (stay_lit _ _ _ _ HK3.out (by decide) kA_s).mono ?_); rintro e w3 ⟨a3, c3, rfl, h, hx⟩; have HV3 := Lib.hid h; have HX3 := Lib.hid (HB3.out.trans hx); have HY3 := Lib.hid hx; clear h hx))
  obtain ⟨g1, rfl, -, d10⟩ := HV1.out 0 1 rfl
  obtain ⟨g2, rfl, -, d20⟩ := HV2.out 0 1 rfl
  obtain ⟨g2', e2, -, d21⟩ := HV2.out 1 2 rfl
  obtain ⟨g3, rfl, -, d30⟩ := HV3.out 0 _ rfl
  obtain ⟨g3', e3, -, d33⟩ := HV3.out 3 _ rfl
  cases e2
  cases e3
  have d10 := HX3.out.cell (HX2.out.cell d10)
  have d20 := HX3.out.cell d20
  have d21 := HX3.out.cell d21
  simp only [Nat.zero_mul, kIt] at d30 d33
  have HE := Lib.hid (HX1.out.trans (HX2.out.trans HX3.out))
  clear HV1 HV2 HV3 HX1 HX2 HX3
  go_wp2_with fail
  go_ret
  exact ⟨rfl, HE.out⟩
end Go.Proofs.Ytlgopjfnknjgjaa