/- Send (22). -/
import Derived.Test.YtlgopjfnknjgjaaN4
namespace Go.Proofs.Ytlgopjfnknjgjaa
open Go.RowKit Go.MapKept

/-- What Send answers. -/
def sendE (k : Nat) (n : Nat) (p q : Int) (len : Nat) : Nat :=
  if decide (0 ≤ p) && decide (p < k) && (decide (0 ≤ q) && decide (q < k)) && !decide (p = q) then (if 4096 < len then 3 else if 4096 ≤ n then 7 else 0) else 1

set_option maxRecDepth 100000 in
set_option maxHeartbeats 4000000 in
theorem send_arg (w : World) (base bn bm k last : Nat) (L : List PK) (h : NetR w base bn bm k last L) (p q : Int) (vb : Value) (hbad : (decide (0 ≤ p) && decide (p < k) && (decide (0 ≤ q) && decide (q < k)) && !decide (p = q)) = false) :
    Calls Try.prog 22 #[.pointer (some ⟨bn, 0, none⟩), .int .i64 p, .int .i64 q, vb] w fun e w' => e = .returned (.tuple #[.int .u64 0, .int .i64 1]) ∧ Ext w w' := by
  obtain ⟨hxa, hbx⟩ := boxes1 w (.cells #[.pointer (some ⟨bn, 0, none⟩)] 48)
  have b0 := cell_of_row _ _ 0 _ _ _ hbx
  have H1 := Lib.hid (h.ext hxa)
  have HBX := Lib.hid hbx
  have HXA := Lib.hid hxa
  clear h hbx hxa
  by_cases hp : (decide (0 ≤ p) && decide (p < k)) = true
  · by_cases hq : (decide (0 ≤ q) && decide (q < k)) = true
    · have hpq : p = q := by
        rw [hp, hq] at hbad
        simpa using hbad
      subst hpq
      have hE : decide (p = p) = true := decide_eq_true rfl
      clear hbad
      go_enter Try.func22, Try.ntmps22
      go_wp2_with (first
        | (go_at_call 38; (with_reducible refine (none_any _ _ _ _ _ _ _ H1.out).mono ?_); rintro e w2 ⟨rfl, hx⟩; have b2 := hx.cell b0; have H2 := Lib.hid (H1.out.ext hx); have HB2 := Lib.hid (block_later HBX.out hx); have HX2 := Lib.hid (HXA.out.trans hx); clear hx b0)
        | (go_at_call 37; (with_reducible refine (broker_any _ _ _ _ _ _ _ _ H2.out HB2.out _).mono ?_); rintro e w3 ⟨rfl, hx⟩; rw [hp]; have HX3 := Lib.hid hx; clear hx)
        | (go_at_call 37; (with_reducible refine (broker_any _ _ _ _ _ _ _ _ (H2.out.ext HX3.out) (block_later HB2.out HX3.out) _).mono ?_); rintro e w4 ⟨rfl, hx⟩; rw [hp]; have HX4 := Lib.hid hx; clear hx))
      go_ret2
      exact ⟨rfl, HX2.out.trans (HX3.out.trans HX4.out)⟩
    · have hq2 : (decide (0 ≤ q) && decide (q < k)) = false := by simpa using hq
      clear hbad hq
      go_enter Try.func22, Try.ntmps22
      go_wp2_with (first
        | (go_at_call 38; (with_reducible refine (none_any _ _ _ _ _ _ _ H1.out).mono ?_); rintro e w2 ⟨rfl, hx⟩; have b2 := hx.cell b0; have H2 := Lib.hid (H1.out.ext hx); have HB2 := Lib.hid (block_later HBX.out hx); have HX2 := Lib.hid (HXA.out.trans hx); clear hx b0)
        | (go_at_call 37; (with_reducible refine (broker_any _ _ _ _ _ _ _ _ H2.out HB2.out p).mono ?_); rintro e w3 ⟨rfl, hx⟩; rw [hp]; have HX3 := Lib.hid hx; clear hx)
        | (go_at_call 37; (with_reducible refine (broker_any _ _ _ _ _ _ _ _ (H2.out.ext HX3.out) (block_later HB2.out HX3.out) q).mono ?_); rintro e w4 ⟨rfl, hx⟩; rw [hq2]; have HX4 := Lib.hid hx; clear hx))
      go_ret2
      exact ⟨rfl, HX2.out.trans (HX3.out.trans HX4.out)⟩
  · have hp2 : (decide (0 ≤ p) && decide (p < k)) = false := by simpa using hp
    clear hbad hp
    go_enter Try.func22, Try.ntmps22
    go_wp2_with (first
      | (go_at_call 38; (with_reducible refine (none_any _ _ _ _ _ _ _ H1.out).mono ?_); rintro e w2 ⟨rfl, hx⟩; have b2 := hx.cell b0; have H2 := Lib.hid (H1.out.ext hx); have HB2 := Lib.hid (block_later HBX.out hx); have HX2 := Lib.hid (HXA.out.trans hx); clear hx b0)
      | (go_at_call 37; (with_reducible refine (broker_any _ _ _ _ _ _ _ _ H2.out HB2.out p).mono ?_); rintro e w3 ⟨rfl, hx⟩; rw [hp2]; have HX3 := Lib.hid hx; clear hx))
    go_ret2
    exact ⟨rfl, HX2.out.trans HX3.out⟩
set_option maxRecDepth 100000 in
set_option maxHeartbeats 4000000 in
theorem send_long (w : World) (base bn bm k last : Nat) (L : List PK) (h : NetR w base bn bm k last L) (p q : Nat) (ab : Option Addr) (nb cb : Nat) (hin : p < k ∧ q < k) (hne : p ≠ q) (hlb : 4096 < nb) :
    Calls Try.prog 22 #[.pointer (some ⟨bn, 0, none⟩), .int .i64 p, .int .i64 q, .slice ab nb cb] w fun e w' => e = .returned (.tuple #[.int .u64 0, .int .i64 3]) ∧ Ext w w' := by
  obtain ⟨hxa, hbx⟩ := boxes1 w (.cells #[.pointer (some ⟨bn, 0, none⟩)] 48)
  have b0 := cell_of_row _ _ 0 _ _ _ hbx
  have H1 := Lib.hid (h.ext hxa)
  have HBX := Lib.hid hbx
  have HXA := Lib.hid hxa
  clear h hbx hxa
  have hp : (decide (0 ≤ (p : Int)) && decide ((p : Int) < k)) = true := by simp; omega
  have hq : (decide (0 ≤ (q : Int)) && decide ((q : Int) < k)) = true := by simp; omega
  have hE : decide ((p : Int) = (q : Int)) = false := decide_eq_false (by omega)
  have hE2 : decide (p = q) = false := decide_eq_false hne
  have hE4 : ((p : Int) == (q : Int)) = false := beq_eq_false_iff_ne.2 (by omega)
  have hE5 : (p == q) = false := beq_eq_false_iff_ne.2 hne
  have hL : decide ((4096 : Int) < (nb : Int)) = true := decide_eq_true (by omega)
  clear hin
  go_enter Try.func22, Try.ntmps22
  go_wp2_with (first
    | (go_at_call 38; (with_reducible refine (none_any _ _ _ _ _ _ _ H1.out).mono ?_); rintro e w2 ⟨rfl, hx⟩; have b2 := hx.cell b0; have H2 := Lib.hid (H1.out.ext hx); have HB2 := Lib.hid (block_later HBX.out hx); have HX2 := Lib.hid (HXA.out.trans hx); clear hx b0)
    | (go_at_call 37; (with_reducible refine (broker_any _ _ _ _ _ _ _ _ H2.out HB2.out (p : Int)).mono ?_); rintro e w3 ⟨rfl, hx⟩; rw [hp]; have HX3 := Lib.hid hx; clear hx)
    | (go_at_call 37; (with_reducible refine (broker_any _ _ _ _ _ _ _ _ (H2.out.ext HX3.out) (block_later HB2.out HX3.out) (q : Int)).mono ?_); rintro e w4 ⟨rfl, hx⟩; rw [hq]; have HX4 := Lib.hid hx; clear hx))
  go_ret2
  exact ⟨rfl, HX2.out.trans (HX3.out.trans HX4.out)⟩
set_option maxRecDepth 100000 in
set_option maxHeartbeats 4000000 in
theorem send_anyF (w : World) (base bn bm k last : Nat) (L : List PK) (h : NetR w base bn bm k last L) (p q : Nat) (vb : Value) (lb : List UInt8) (hb : Bytes w vb lb) (hbk : ∀ w w', Net2 bn bm w w' → Bytes w vb lb → Bytes w' vb lb) (hin : p < k ∧ q < k) (hne : p ≠ q) (hlb : lb.length ≤ 4096) (hf : L.length < 4096) (hlast : last < 1000000000) :
    Calls Try.prog 22 #[.pointer (some ⟨bn, 0, none⟩), .int .i64 p, .int .i64 q, vb] w fun e w' => e = .returned (.tuple #[.int .u64 (last + 1 : Nat), .int .i64 0]) ∧ (∃ hv, NetR w' base bn bm k (last + 1) (L ++ [⟨last + 1, p, q, lb, hv⟩]) ∧ ∀ g, hv.ownBlock = some g → w.heap.size ≤ g) ∧ Net2 bn bm w w' := by
  obtain ⟨ab, cb, rfl, _, _⟩ := hb.shape
  obtain ⟨hxa, hbx⟩ := boxes1 w (.cells #[.pointer (some ⟨bn, 0, none⟩)] 48)
  have b0 := cell_of_row _ _ 0 _ _ _ hbx
  have H1 := Lib.hid (h.ext hxa)
  have HB1 := Lib.hid (Bytes.ext hb hxa)
  have HBX := Lib.hid hbx
  have HXA := Lib.hid hxa
  have HBK := Lib.hid hbk
  have HIN := Lib.hid hin
  have HF := Lib.hid hf
  have HLB := Lib.hid hlb
  have HLA := Lib.hid hlast
  have hp : (decide (0 ≤ (p : Int)) && decide ((p : Int) < k)) = true := by simp; omega
  have hq : (decide (0 ≤ (q : Int)) && decide ((q : Int) < k)) = true := by simp; omega
  have hE : decide ((p : Int) = (q : Int)) = false := decide_eq_false (by omega)
  have hE2 : decide (p = q) = false := decide_eq_false hne
  have hE4 : ((p : Int) == (q : Int)) = false := beq_eq_false_iff_ne.2 (by omega)
  have hE5 : (p == q) = false := beq_eq_false_iff_ne.2 hne
  have hL : decide ((4096 : Int) < (lb.length : Int)) = false := decide_eq_false (by omega)
  have HFIN : Hid (∀ W, Ext w W → ∀ (e : Ending) w', (e = .returned (.tuple #[.int .u64 (last + 1 : Nat), .int .i64 0]) ∧ (∃ hv, NetR w' base bn bm k (last + 1) (L ++ [⟨last + 1, p, q, lb, hv⟩]) ∧ ∀ g, hv.ownBlock = some g → W.heap.size ≤ g) ∧ Net2 bn bm W w') → (∃ hv, NetR w' base bn bm k (last + 1) (L ++ [⟨last + 1, p, q, lb, hv⟩]) ∧ ∀ g, hv.ownBlock = some g → w.heap.size ≤ g) ∧ Net2 bn bm w w') := fun W hx e w' h => ⟨h.2.1.imp fun _ hh => ⟨hh.1, fun g hg => Nat.le_trans hx.size (hh.2 g hg)⟩, (Net2.of hx).trans h.2.2⟩
  clear h hbx hxa hin hf hlb hlast hb hbk
  obtain ⟨l1, hl1⟩ : ∃ l1, l1 = last + 1 := ⟨_, rfl⟩
  rw [← hl1] at HFIN ⊢
  have HL1 := Lib.hid hl1
  clear hl1
  go_enter Try.func22, Try.ntmps22
  go_wp2_with (first
    | (go_at_call 38; (with_reducible refine (none_any _ _ _ _ _ _ _ H1.out).mono ?_); rintro e w2 ⟨rfl, hx⟩; have b2 := hx.cell b0; have H2 := Lib.hid (H1.out.ext hx); have HB2 := Lib.hid (block_later HBX.out hx); have HBY2 := Lib.hid (Bytes.ext HB1.out hx); have HX2 := Lib.hid (HXA.out.trans hx); clear hx b0)
    | (go_at_call 37; (with_reducible refine (broker_any _ _ _ _ _ _ _ _ H2.out HB2.out (p : Int)).mono ?_); rintro e w3 ⟨rfl, hx⟩; rw [hp]; have HX3 := Lib.hid hx; clear hx)
    | (go_at_call 37; (with_reducible refine (broker_any _ _ _ _ _ _ _ _ (H2.out.ext HX3.out) (block_later HB2.out HX3.out) (q : Int)).mono ?_); rintro e w4 ⟨rfl, hx⟩; rw [hq]; have HX4 := Lib.hid hx; have b3 := HX3.out.cell b2; have b4 := hx.cell b3; clear hx b2 b3)
    | (go_at_call 39; (with_reducible refine (out_anyF _ _ _ _ _ _ _ (H2.out.ext (HX3.out.trans HX4.out)) _ _ _ lb (Bytes.ext HBY2.out (HX3.out.trans HX4.out)) (fun w' h => HBK.out _ w' h (Bytes.ext HBY2.out (HX3.out.trans HX4.out))) HIN.out HLB.out HF.out HLA.out).mono ?_); rw [← HL1.out]; rintro e w5 ⟨rfl, hr⟩; have HR := Lib.hid (HFIN.out _ (HX2.out.trans (HX3.out.trans HX4.out)) _ _ ⟨rfl, hr⟩); clear hr))
  go_ret2
  exact ⟨rfl, HR.out⟩
theorem send_any (w : World) (base bn bm k last : Nat) (L : List PK) (h : NetR w base bn bm k last L) (p q : Nat) (vb : Value) (lb : List UInt8) (hb : Bytes w vb lb) (hbk : ∀ w w', Net2 bn bm w w' → Bytes w vb lb → Bytes w' vb lb) (hin : p < k ∧ q < k) (hne : p ≠ q) (hlb : lb.length ≤ 4096) (hf : L.length < 4096) (hlast : last < 1000000000) :
    Calls Try.prog 22 #[.pointer (some ⟨bn, 0, none⟩), .int .i64 p, .int .i64 q, vb] w fun e w' => e = .returned (.tuple #[.int .u64 (last + 1 : Nat), .int .i64 0]) ∧ (∃ hv, NetR w' base bn bm k (last + 1) (L ++ [⟨last + 1, p, q, lb, hv⟩])) ∧ Net2 bn bm w w' :=
  (send_anyF w base bn bm k last L h p q vb lb hb hbk hin hne hlb hf hlast).mono fun _ _ ⟨h1, ⟨hv, h2, _⟩, h3⟩ => ⟨h1, ⟨hv, h2⟩, h3⟩
end Go.Proofs.Ytlgopjfnknjgjaa
