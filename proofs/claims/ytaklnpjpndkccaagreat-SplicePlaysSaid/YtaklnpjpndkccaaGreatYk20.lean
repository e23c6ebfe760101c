import Derived.Test.YtaklnpjpndkccaaGreatYk18
namespace Go.Proofs.YtaklnpjpndkccaaGreat
open Go.RowKit Go.Sort
def rowsN (bs : Nat) (p : List C) (n : Nat) (s c : Int) (N : Nat) (oa : Option Addr) (oc : Nat) (O : List DM) (w : World) : Prop :=
 (w.ownsRow N 53 6 (.slice oa O.length oc) O.length (O.flatMap dmC) ∧ ∀ y ∈ O, AttrO N w y.h y.av) ∧ SsP bs p n s c w
section
variable (bs rb : Nat) (hlt : bs < rb) (p : List C) (n : Nat) (s c : Int) (N : Nat) (oa : Option Addr) (oc : Nat) (O : List DM)
include hlt in
theorem rowsN.st {j : Nat} (hj : (j == 1) = false) {w w' : World} (hx : PsK bs rb j w w') (h : rowsN bs p n s c N oa oc O w) : rowsN bs p n s c N oa oc O w' :=
 ⟨⟨hx.own h.1.1 (by decide) (by decide), fun y hy => hx.own (h.1.2 y hy) (by decide) (by decide)⟩, (GSs bs rb hlt p n s c).st j hj undef w w' hx h.2⟩
def GOw : Rk.FactK (PsK bs rb) := ⟨fun _ w => rowsN bs p n s c N oa oc O w, fun k => k == 1, fun _ hj _ _ _ hx h => rowsN.st bs rb hlt p n s c N oa oc O hj hx h⟩
def FOw : Rk.FactK (PsK bs rb) := ⟨fun v w => v = .slice oa O.length oc ∧ rowsN bs p n s c N oa oc O w, fun k => k == 1, fun _ hj _ _ _ hx h => ⟨h.1, rowsN.st bs rb hlt p n s c N oa oc O hj hx h.2⟩⟩
end
theorem rowsN.dp {bs : Nat} {p : List C} {n : Nat} {s c : Int} {N : Nat} {oa : Option Addr} {oc : Nat} {O : List DM} {w : World} (h : rowsN bs p n s c N oa oc O w) {out : List PD} (ho : O.map DM.pd = out) : dP out (.slice oa O.length oc) w :=
 ⟨O, oa, oc, rfl, ho, own_low h.1.1 (Nat.zero_le _), fun y hy => own_low (h.1.2 y hy) (Nat.zero_le _)⟩
end Go.Proofs.YtaklnpjpndkccaaGreat
