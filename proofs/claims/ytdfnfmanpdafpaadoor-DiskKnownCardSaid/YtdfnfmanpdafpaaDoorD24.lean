/- Disk: a disk of the call's own, as calls are made on it. -/
import Derived.Test.YtdfnfmanpdafpaaDoorD23
namespace Go.Proofs.YtdfnfmanpdafpaaDoor
open Go.RowKit

/-- The disk in block b says S; it was made by the call that began at w. -/
def AtD (w : World) (b : Nat) (S : DS) (wr : World) : Prop := OkD S ∧ ∃ F, Dk wr b F S ∧ Ext w wr ∧ ∀ k ∈ F, w.heap.size ≤ k
theorem AtD.ext {w wr w' : World} {b : Nat} {S : DS} (h : AtD w b S wr) (hx : Ext wr w') : AtD w b S w' := by
  obtain ⟨ok, F, h1, h2, h3⟩ := h
  exact ⟨ok, F, h1.ext hx, h2.trans hx, h3⟩
theorem AtD.out {w wr : World} {b : Nat} {S : DS} (h : AtD w b S wr) : Ext w wr := by obtain ⟨_, F, _, h2, _⟩ := h; exact h2
theorem AtD.left {w wr w' : World} {b : Nat} {S S' : DS} (h : ∀ F, Dk wr b F S → LeftD wr b F S' w') (k : AtD w b S wr) (ok : OkD S') : AtD w b S' w' := by
  obtain ⟨_, F, h1, h2, h3⟩ := k
  obtain ⟨F', q1, q2⟩ := h F h1
  exact ⟨ok, F', q1, q2.turns.ext h2 h3, q2.above h2.size h3⟩
theorem AtD.call {w wr : World} {b f : Nat} {S S' : DS} {args : Array Value} {c : Int} (k : AtD w b S wr) (ok : OkD S') (h : ∀ F, Dk wr b F S → (∀ i ∈ F, i < wr.heap.size) → Calls Tryd.prog f args wr fun e w' => e = .returned (.int .i64 c) ∧ LeftD wr b F S' w') :
    Calls Tryd.prog f args wr fun e w' => e = .returned (.int .i64 c) ∧ AtD w b S' w' := by
  obtain ⟨_, F, h1, h2, h3⟩ := k
  refine (h F h1 h1.lt).mono ?_
  rintro e w' ⟨rfl, F', q1, q2⟩
  exact ⟨rfl, ok, F', q1, q2.turns.ext h2 h3, q2.above h2.size h3⟩
theorem AtD.create {w wr : World} {b : Nat} {S S' : DS} (k : AtD w b S wr) (n : List UInt8) (c : Int) (hc : askdE S (createL S n) = c) (hs : askdS S (createL S n) (createA n) = S') :
    Calls Tryd.prog 19 #[.pointer (some ⟨b, 0, none⟩), .string (strOf n)] wr fun e w' => e = .returned (.int .i64 c) ∧ AtD w b S' w' := by
  subst hc; subst hs
  refine k.call (okD_do k.1 ⟨0, n, [], [], 0, []⟩ (by show (0 : Int) < 9223372036854775808; omega)) fun F hd _ => create_any wr b F S n hd k.1.f0 k.1.f1
theorem AtD.sync {w wr : World} {b : Nat} {S S' : DS} (k : AtD w b S wr) (n : List UInt8) (c : Int) (hc : askdE S (syncL S n) = c) (hs : askdS S (syncL S n) (syncA n) = S') :
    Calls Tryd.prog 25 #[.pointer (some ⟨b, 0, none⟩), .string (strOf n)] wr fun e w' => e = .returned (.int .i64 c) ∧ AtD w b S' w' := by
  subst hc; subst hs
  refine k.call (okD_do k.1 ⟨2, n, [], [], 0, []⟩ (by show (0 : Int) < 9223372036854775808; omega)) fun F hd _ => sync_any wr b F S n hd k.1.f0 k.1.f1
theorem AtD.remove {w wr : World} {b : Nat} {S S' : DS} (k : AtD w b S wr) (n : List UInt8) (c : Int) (hc : askdE S (syncL S n) = c) (hs : askdS S (syncL S n) (removeA n) = S') :
    Calls Tryd.prog 22 #[.pointer (some ⟨b, 0, none⟩), .string (strOf n)] wr fun e w' => e = .returned (.int .i64 c) ∧ AtD w b S' w' := by
  subst hc; subst hs
  refine k.call (okD_do k.1 ⟨5, n, [], [], 0, []⟩ (by show (0 : Int) < 9223372036854775808; omega)) fun F hd _ => remove_any wr b F S n hd k.1.f0 k.1.f1
theorem AtD.rename {w wr : World} {b : Nat} {S S' : DS} (k : AtD w b S wr) (o n : List UInt8) (c : Int) (hc : askdE S (renameL S o n) = c) (hs : askdS S (renameL S o n) (renameA o n) = S') :
    Calls Tryd.prog 20 #[.pointer (some ⟨b, 0, none⟩), .string (strOf o), .string (strOf n)] wr fun e w' => e = .returned (.int .i64 c) ∧ AtD w b S' w' := by
  subst hc; subst hs
  refine k.call (okD_do k.1 ⟨3, o, n, [], 0, []⟩ (by show (0 : Int) < 9223372036854775808; omega)) fun F hd _ => rename_any wr b F S o n hd k.1.f0 k.1.f1
theorem AtD.trunc {w wr : World} {b : Nat} {S S' : DS} (k : AtD w b S wr) (n : List UInt8) (z : Int) (hz : z < 9223372036854775808) (c : Int) (hc : askdE S (truncL S n z) = c) (hs : askdS S (truncL S n z) (truncA n z) = S') :
    Calls Tryd.prog 21 #[.pointer (some ⟨b, 0, none⟩), .string (strOf n), .int .i64 z] wr fun e w' => e = .returned (.int .i64 c) ∧ AtD w b S' w' := by
  subst hc; subst hs
  refine k.call (okD_do k.1 ⟨4, n, [], [], z, []⟩ hz) fun F hd _ => trunc_any wr b F S n z hd k.1
theorem AtD.quota {w wr : World} {b : Nat} {S S' : DS} (k : AtD w b S wr) (z : Int) (hz : z < 9223372036854775808) (c : Int) (hc : quotaE z = c) (hs : quotaS S z = S') :
    Calls Tryd.prog 23 #[.pointer (some ⟨b, 0, none⟩), .int .i64 z] wr fun e w' => e = .returned (.int .i64 c) ∧ AtD w b S' w' := by
  subst hc; subst hs
  refine k.call (okD_do k.1 ⟨6, [], [], [], z, []⟩ hz) fun F hd _ => quota_any wr b F S z hd
theorem AtD.fuse {w wr : World} {b : Nat} {S S' : DS} (k : AtD w b S wr) (z : Int) (hz : z < 9223372036854775808) (c : Int) (hc : firstE (fuseL S z) = c) (hs : fuseS S z = S') :
    Calls Tryd.prog 16 #[.pointer (some ⟨b, 0, none⟩), .int .i64 z] wr fun e w' => e = .returned (.int .i64 c) ∧ AtD w b S' w' := by
  subst hc; subst hs
  refine k.call (okD_do k.1 ⟨7, [], [], [], z, []⟩ hz) fun F hd _ => fuse_any wr b F S z hd
/-- Bytes in a block made behind the disk's. -/
theorem fresh_apart {w0 : World} {F : List Nat} (h : ∀ i ∈ F, i < w0.heap.size) {a : Option Addr} {n c : Nat} (ha : ∀ B o, a = some ⟨B, o, none⟩ → w0.heap.size ≤ B) : ApartD F (.slice a n c) := by
  intro B o k c' e hm
  simp only [Value.slice.injEq] at e
  have h1 := ha B o e.1
  have h2 := h B hm
  omega
theorem AtD.append {w w0 wr : World} {b : Nat} {S S' : DS} (k : AtD w b S w0) (hx : Ext w0 wr) (n : List UInt8) (a : Option Addr) (m c0 : Nat) (l : List UInt8) (hv : Bytes wr (.slice a m c0) l) (ha : ∀ B o, a = some ⟨B, o, none⟩ → w0.heap.size ≤ B) (c : Int) (hc : askdE S (appendL S n l.length) = c) (hs : askdS S (appendL S n l.length) (appendA n l) = S') :
    Calls Tryd.prog 24 #[.pointer (some ⟨b, 0, none⟩), .string (strOf n), .slice a m c0] wr fun e w' => e = .returned (.int .i64 c) ∧ AtD w b S' w' := by
  subst hc; subst hs
  obtain ⟨ok, F, h1, h2, h3⟩ := k
  refine (append_any wr b F S n (h1.ext hx) ok _ l l.length rfl hv (fresh_apart h1.lt ha)).mono ?_
  rintro e w' ⟨rfl, F', q1, q2⟩
  exact ⟨rfl, okD_do ok ⟨1, n, [], l, 0, []⟩ (by show (0 : Int) < 9223372036854775808; omega), F', q1, q2.turns.ext (h2.trans hx) h3, q2.above (h2.trans hx).size h3⟩
theorem AtD.crash {w w0 wr : World} {b : Nat} {S S' : DS} (k : AtD w b S w0) (hx : Ext w0 wr) (a1 a2 : Option Addr) (m1 m2 c1 c2 : Nat) (ps : List Nat) (ts : List UInt8) (hp : Row wr 1 (.slice a1 m1 c1) ps.length (u16V ps)) (hps : ∀ p ∈ ps, p < 65536) (hv : Bytes wr (.slice a2 m2 c2) ts) (ha1 : ∀ B o, a1 = some ⟨B, o, none⟩ → w0.heap.size ≤ B) (ha2 : ∀ B o, a2 = some ⟨B, o, none⟩ → w0.heap.size ≤ B) (hs : crashS ps ts S = S') :
    Calls Tryd.prog 12 #[.pointer (some ⟨b, 0, none⟩), .slice a1 m1 c1, .slice a2 m2 c2] wr fun e w' => e = .returned (.int .i64 0) ∧ AtD w b S' w' := by
  subst hs
  obtain ⟨ok, F, h1, h2, h3⟩ := k
  refine (crash_any wr b F S (h1.ext hx) ok _ _ ps ts hp hps hv (fun _ => fresh_apart h1.lt ha1) (fun _ => fresh_apart h1.lt ha2)).mono ?_
  rintro e w' ⟨rfl, F', q1, q2⟩
  exact ⟨rfl, okD_do ok ⟨8, [], [], ts, 0, ps⟩ (by show (0 : Int) < 9223372036854775808; omega), F', q1, q2.turns.ext (h2.trans hx) h3, q2.above (h2.trans hx).size h3⟩
theorem AtD.loose {w wr : World} {b : Nat} {S : DS} (k : AtD w b S wr) (n : List UInt8) (m : Nat) (hm : looseS S n = m) :
    Calls Tryd.prog 11 #[.pointer (some ⟨b, 0, none⟩), .string (strOf n)] wr fun e w' => e = .returned (.int .i64 (m : Nat)) ∧ AtD w b S w' := by
  subst hm
  obtain ⟨ok, F, h1, h2, h3⟩ := k
  refine (loose_any wr b F S n h1 ok).mono ?_
  rintro e w' ⟨rfl, hx⟩
  exact ⟨rfl, ok, F, h1.ext hx, h2.trans hx, h3⟩
theorem AtD.read {w wr : World} {b : Nat} {S : DS} (k : AtD w b S wr) (n : List UInt8) (c : Int) (l : List UInt8) (hc : firstE (syncL S n) = c) (hl : readS S n = l) :
    Calls Tryd.prog 10 #[.pointer (some ⟨b, 0, none⟩), .string (strOf n)] wr fun e w' => ∃ v, e = .returned (.tuple #[v, .int .i64 c]) ∧ OwnU w' wr.heap.size v l ∧ AtD w b S w' ∧ Ext wr w' := by
  subst hc; subst hl
  obtain ⟨ok, F, h1, h2, h3⟩ := k
  refine (read_any wr b F S n h1 ok.used).mono ?_
  rintro e w' ⟨v, rfl, ho, hx⟩
  exact ⟨v, rfl, ho, ⟨ok, F, h1.ext hx, h2.trans hx, h3⟩, hx⟩
theorem AtD.size {w wr : World} {b : Nat} {S : DS} (k : AtD w b S wr) (n : List UInt8) (c : Int) (m : Nat) (hc : firstE (syncL S n) = c) (hl : (readS S n).length = m) :
    Calls Tryd.prog 26 #[.pointer (some ⟨b, 0, none⟩), .string (strOf n)] wr fun e w' => e = .returned (.tuple #[.int .i64 (m : Nat), .int .i64 c]) ∧ AtD w b S w' := by
  subst hc; subst hl
  obtain ⟨ok, F, h1, h2, h3⟩ := k
  refine (size_any wr b F S n h1 ok.used).mono ?_
  rintro e w' ⟨rfl, hx⟩
  exact ⟨rfl, ok, F, h1.ext hx, h2.trans hx, h3⟩
theorem AtD.names {w wr : World} {b : Nat} {S : DS} (k : AtD w b S wr) (l : List (List UInt8)) (hl : namesS S = l) :
    Calls Tryd.prog 9 #[.pointer (some ⟨b, 0, none⟩)] wr fun e w' => ∃ v : Value, e = .returned v ∧ w'.ownsRow wr.heap.size 9 1 v l.length (l.map stD) ∧ AtD w b S w' ∧ Ext wr w' := by
  subst hl
  obtain ⟨ok, F, h1, h2, h3⟩ := k
  refine (names_dk wr b F S h1 ok).mono ?_
  rintro e w' ⟨v, rfl, ho, hx⟩
  exact ⟨v, rfl, ho, ⟨ok, F, h1.ext hx, h2.trans hx, h3⟩, hx⟩
theorem AtD.off {w wr : World} {b : Nat} {S : DS} (k : AtD w b S wr) : Calls Tryd.prog 18 #[.pointer (some ⟨b, 0, none⟩)] wr fun e w' => e = .returned (.bool S.off) ∧ w' = wr := by
  obtain ⟨ok, F, ⟨bm, gs, h1, _⟩, _⟩ := k
  exact off_any wr b bm S.q S.fz S.off h1.box
theorem AtD.new (w wr : World) (hx : Ext w wr) (q : Int) (h0 : 0 ≤ q) (h1 : q ≤ 4194304) :
    Calls Tryd.prog 6 #[.int .i64 q] wr fun e w' => ∃ b, e = .returned (.tuple #[.pointer (some ⟨b, 0, none⟩), .int .i64 0]) ∧ AtD w b ⟨[], q, -1, false⟩ w' := by
  refine (new_yesD wr q h0 h1).mono ?_
  rintro e w' ⟨b, F, rfl, hd, hx2, hF⟩
  exact ⟨b, rfl, new_okD q h0 h1, F, hd, hx.trans hx2, fun k hk => Nat.le_trans hx.size (hF k hk)⟩
end Go.Proofs.YtdfnfmanpdafpaaDoor
