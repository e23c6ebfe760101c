/- PLAIN: what a splicer tells of a store covers it: SpliceWhole's law.
SpliceWhole: the store's gone and item; ge.
SpliceWhole: a page of a store.
SpliceWhole: a move.
SpliceWhole: what its walk keeps; one contract for each call of the walk.
A law's arguments of a store and of moves (pneumaticlaw26), opened. -/
import Derived.Deep.CutBlock
import Derived.Test.YtaklnpjpndkccaaGreatPk9
import Derived.Test.YtaklnpjpndkccaaGreatPk11
import Derived.Test.YtaklnpjpndkccaaGreatPk7
import Derived.Test.YtaklnpjpndkccaaGreatPk12
import Derived.Test.YtaklnpjpndkccaaGreatPk13
namespace Go.Proofs.YtaklnpjpndkccaaGreat
open Go.RowKit Go.Sort

/-- Is a number gone; does its event match? (from 1 on) -/
def gonB (G : List Bool) (n : Nat) : Bool := G.getD (n - 1) false
def relB (G M : List Bool) (n : Nat) : Bool := gonB G n || gonB M n
/-- The store's item. -/
def itW (M : List Bool) (n : Nat) : PI := ⟨n, 0, [], [([97], ⟨1, if gonB M n = true then 1 else -1, [], false⟩)]⟩
def geL : List C := [⟨[97], 7, ⟨1, 0, [], false⟩, []⟩]
theorem geL_may : mayP geL = true := by kernel_rfl
theorem geL_norm : normP geL = geL := by kernel_rfl
theorem itW_match (M : List Bool) (n : Nat) : matchP geL (itW M n).av = gonB M n := by
  unfold itW
  generalize gonB M n = b
  cases b <;> kernel_rfl
/-- What may be told. -/
def ElW (G M : List Bool) (d : PD) : Prop :=
  (∃ f g, d = PD.ofG (f, g) ∧ 1 ≤ f ∧ f ≤ g ∧ ∀ n, f ≤ n → n ≤ g → gonB G n = true) ∨ (∃ n, d = PD.ofI (itW M n) ∧ 1 ≤ n ∧ gonB G n = false ∧ gonB M n = true)
theorem begG (f g : Nat) : (PD.ofG (f, g)).beg = f := rfl
theorem numG (f g : Nat) : (PD.ofG (f, g)).num = g := Nat.zero_max g
theorem begI {M : List Bool} {n : Nat} (h : 1 ≤ n) : (PD.ofI (itW M n)).beg = n := if_pos h
theorem numI (M : List Bool) (n : Nat) : (PD.ofI (itW M n)).num = n := Nat.max_zero n
theorem ElW.num {G M : List Bool} {d : PD} (h : ElW G M d) : d.beg ≤ d.num ∧ 1 ≤ d.beg := by
  rcases h with ⟨f, g, rfl, h1, h2, _⟩ | ⟨n, rfl, h1, _⟩
  · rw [begG, numG]; exact ⟨h2, h1⟩
  · rw [begI h1, numI]; exact ⟨Nat.le_refl _, h1⟩
theorem ElW.rel {G M : List Bool} {d : PD} (h : ElW G M d) {n : Nat} (h1 : d.beg ≤ n) (h2 : n ≤ d.num) : relB G M n = true ∧ gonB G n = decide (d.n = 0) := by
  rcases h with ⟨f, g, rfl, _, _, h3⟩ | ⟨k, rfl, h3, h4, h5⟩
  · rw [begG] at h1
    rw [numG] at h2
    have := h3 n h1 h2
    refine ⟨by unfold relB; rw [this]; rfl, this.trans ?_⟩
    rfl
  · rw [begI h3] at h1
    rw [numI] at h2
    have : n = k := by omega
    subst this
    refine ⟨by unfold relB; rw [h5, Bool.or_true], h4.trans ?_⟩
    have : ¬ (PD.ofI (itW M n)).n = 0 := by show ¬ n = 0; omega
    exact (decide_eq_false this).symm
/-- Deliveries that cover what is told, from a number up to one. -/
def CovW (G M : List Bool) : Nat → List PD → Nat → Prop
  | a, [], b => a ≤ b ∧ ∀ n, a ≤ n → n < b → relB G M n = false
  | a, d :: r, b => ElW G M d ∧ a ≤ d.beg ∧ (∀ n, a ≤ n → n < d.beg → relB G M n = false) ∧ CovW G M (d.num + 1) r b
variable {G M : List Bool}
theorem cov_len : ∀ {L : List PD} {a b : Nat}, CovW G M a L b → L.length + a ≤ b
  | [], _, _, h => by simpa using h.1
  | d :: r, a, b, h => by
    have := cov_len h.2.2.2
    have := h.1.num
    have := h.2.1
    simp only [List.length_cons]
    omega
theorem cov_le {L : List PD} {a b : Nat} (h : CovW G M a L b) : a ≤ b := by have := cov_len h; omega
theorem cov_from {L : List PD} {a b c : Nat} (h : CovW G M b L c) (h1 : a ≤ b) (h2 : ∀ n, a ≤ n → n < b → relB G M n = false) : CovW G M a L c := by
  cases L with
  | nil => exact ⟨Nat.le_trans h1 h.1, fun n k1 k2 => by
      by_cases hn : n < b
      · exact h2 n k1 hn
      · exact h.2 n (by omega) k2⟩
  | cons d r => exact ⟨h.1, Nat.le_trans h1 h.2.1, fun n k1 k2 => by
      by_cases hn : n < b
      · exact h2 n k1 hn
      · exact h.2.2.1 n (by omega) k2, h.2.2.2⟩
theorem cov_app : ∀ {X Y : List PD} {a b c : Nat}, CovW G M a X b → CovW G M b Y c → CovW G M a (X ++ Y) c
  | [], _, _, _, _, h, k => cov_from k h.1 h.2
  | _ :: _, _, _, _, _, h, k => ⟨h.1, h.2.1, h.2.2.1, cov_app h.2.2.2 k⟩
theorem cov_to {L : List PD} {a b c : Nat} (h : CovW G M a L b) (h1 : b ≤ c) (h2 : ∀ n, b ≤ n → n < c → relB G M n = false) : CovW G M a L c := by
  have := cov_app h (show CovW G M b [] c from ⟨h1, h2⟩)
  rwa [List.append_nil] at this
theorem cov_split : ∀ {X : List PD} {d : PD} {r : List PD} {a b : Nat}, CovW G M a (X ++ d :: r) b → CovW G M a X d.beg ∧ ElW G M d ∧ CovW G M (d.num + 1) r b
  | [], _, _, _, _, h => ⟨⟨h.2.1, h.2.2.1⟩, h.1, h.2.2.2⟩
  | _ :: _, _, _, _, _, h => by
    obtain ⟨h1, h2, h3⟩ := cov_split h.2.2.2
    exact ⟨⟨h.1, h.2.1, h.2.2.1, h1⟩, h2, h3⟩
theorem cov_num : ∀ {L : List PD} {a b : Nat}, CovW G M a L b → ∀ d ∈ L, a ≤ d.beg ∧ d.num < b ∧ ElW G M d
  | [], _, _, _, _, h => by cases h
  | x :: r, a, b, h, d, hd => by
    rcases List.mem_cons.1 hd with rfl | hd
    · have := cov_le h.2.2.2
      exact ⟨h.2.1, by omega, h.1⟩
    · have := cov_num h.2.2.2 d hd
      have := h.1.num
      have := h.2.1
      exact ⟨by omega, by omega, by simp_all⟩
/-- The gaps of deliveries; the items. -/
def gpsOf : List PD → List (Nat × Nat)
  | [] => []
  | d :: r => if d.n = 0 then (d.f, d.g) :: gpsOf r else gpsOf r
def itsOf : List PD → List PI
  | [] => []
  | d :: r => if d.n = 0 then itsOf r else ⟨d.n, d.t, d.key, d.av⟩ :: itsOf r
theorem gps_app : ∀ (X Y : List PD), gpsOf (X ++ Y) = gpsOf X ++ gpsOf Y
  | [], _ => rfl
  | d :: r, Y => by
    rw [List.cons_append, gpsOf, gpsOf, gps_app r Y]
    split <;> rfl
theorem its_app : ∀ (X Y : List PD), itsOf (X ++ Y) = itsOf X ++ itsOf Y
  | [], _ => rfl
  | d :: r, Y => by
    rw [List.cons_append, itsOf, itsOf, its_app r Y]
    split <;> rfl
theorem gps_G (x : Nat × Nat) : gpsOf [PD.ofG x] = [x] := rfl
theorem its_G (x : Nat × Nat) : itsOf [PD.ofG x] = [] := rfl
theorem gps_I {M : List Bool} {n : Nat} (h : 1 ≤ n) : gpsOf [PD.ofI (itW M n)] = [] := by
  have : ¬ (PD.ofI (itW M n)).n = 0 := by show ¬ n = 0; omega
  rw [gpsOf, if_neg this]; rfl
theorem its_I {M : List Bool} {n : Nat} (h : 1 ≤ n) : itsOf [PD.ofI (itW M n)] = [itW M n] := by
  have : ¬ (PD.ofI (itW M n)).n = 0 := by show ¬ n = 0; omega
  rw [itsOf, if_neg this]; rfl
theorem gps_mem : ∀ {L : List PD} {x : Nat × Nat}, x ∈ gpsOf L → ∃ d ∈ L, d.n = 0 ∧ x = (d.f, d.g)
  | d :: r, x, h => by
    rw [gpsOf] at h
    split at h
    · rename_i h0
      rcases List.mem_cons.1 h with rfl | h
      · exact ⟨d, List.mem_cons_self .., h0, rfl⟩
      · obtain ⟨e, h1, h2⟩ := gps_mem h
        exact ⟨e, List.mem_cons_of_mem _ h1, h2⟩
    · obtain ⟨e, h1, h2⟩ := gps_mem h
      exact ⟨e, List.mem_cons_of_mem _ h1, h2⟩
theorem its_mem : ∀ {L : List PD} {x : PI}, x ∈ itsOf L → ∃ d ∈ L, d.n ≠ 0 ∧ x = ⟨d.n, d.t, d.key, d.av⟩
  | d :: r, x, h => by
    rw [itsOf] at h
    split at h
    · obtain ⟨e, h1, h2⟩ := its_mem h
      exact ⟨e, List.mem_cons_of_mem _ h1, h2⟩
    · rename_i h0
      rcases List.mem_cons.1 h with rfl | h
      · exact ⟨d, List.mem_cons_self .., h0, rfl⟩
      · obtain ⟨e, h1, h2⟩ := its_mem h
        exact ⟨e, List.mem_cons_of_mem _ h1, h2⟩
theorem El_gap {d : PD} (h : ElW G M d) (h0 : d.n = 0) : d = PD.ofG (d.f, d.g) ∧ d.beg = d.f ∧ d.num = d.g := by
  rcases h with ⟨f, g, rfl, h1, h2, _⟩ | ⟨n, rfl, h1, _⟩
  · exact ⟨rfl, begG f g, numG f g⟩
  · have h0 : n = 0 := h0
    omega
theorem El_item {d : PD} (h : ElW G M d) (h0 : d.n ≠ 0) : d = PD.ofI ⟨d.n, d.t, d.key, d.av⟩ ∧ d.beg = d.n ∧ d.num = d.n ∧ d.av = (itW M d.n).av ∧ gonB M d.n = true := by
  rcases h with ⟨f, g, rfl, h1, h2, _⟩ | ⟨n, rfl, h1, _, h3⟩
  · exact absurd rfl h0
  · exact ⟨rfl, begI h1, numI M n, rfl, h3⟩
theorem gps_low {L : List PD} {a b : Nat} (h : CovW G M a L b) {x : Nat × Nat} (hx : x ∈ gpsOf L) : a ≤ x.1 ∧ x.2 < b ∧ x.1 ≤ x.2 := by
  obtain ⟨d, h1, h2, rfl⟩ := gps_mem hx
  have h3 := cov_num h d h1
  have h4 := El_gap h3.2.2 h2
  have h5 := h3.2.2.num
  have : a ≤ d.f := by omega
  have : d.g < b := by omega
  exact ⟨by assumption, by assumption, by show d.f ≤ d.g; omega⟩
theorem its_low {L : List PD} {a b : Nat} (h : CovW G M a L b) {x : PI} (hx : x ∈ itsOf L) : a ≤ x.n ∧ x.n < b := by
  obtain ⟨d, h1, h2, rfl⟩ := its_mem hx
  have h3 := cov_num h d h1
  have h4 := El_item h3.2.2 h2
  have : a ≤ d.n := by omega
  have : d.n < b := by omega
  exact ⟨by assumption, by assumption⟩
theorem gps_rise : ∀ {L : List PD} {a b : Nat}, CovW G M a L b → (gpsOf L).Pairwise fun x y => x.1 < y.1
  | [], _, _, _ => List.Pairwise.nil
  | d :: r, a, b, h => by
    rw [gpsOf]
    have ih := gps_rise h.2.2.2
    split
    · rename_i h0
      refine List.pairwise_cons.2 ⟨fun x hx => ?_, ih⟩
      have := gps_low h.2.2.2 hx
      have := El_gap h.1 h0
      have := h.1.num
      show d.f < x.1
      omega
    · exact ih
theorem its_rise : ∀ {L : List PD} {a b : Nat}, CovW G M a L b → (itsOf L).Pairwise fun x y => x.n < y.n
  | [], _, _, _ => List.Pairwise.nil
  | d :: r, a, b, h => by
    rw [itsOf]
    have ih := its_rise h.2.2.2
    split
    · exact ih
    · rename_i h0
      refine List.pairwise_cons.2 ⟨fun x hx => ?_, ih⟩
      have := its_low h.2.2.2 hx
      have := El_item h.1 h0
      show d.n < x.n
      omega
theorem rowD_its : ∀ {L : List PD} {a b : Nat}, CovW G M a L b → gpsOf L = [] → (itsOf L).map PD.ofI = L
  | [], _, _, _, _ => rfl
  | d :: r, a, b, h, h0 => by
    rw [gpsOf] at h0
    split at h0
    · cases h0
    · rename_i hn
      rw [itsOf, if_neg hn, List.map_cons, rowD_its h.2.2.2 h0, ← (El_item h.1 hn).1]
/-- The row of a page that covers. -/
theorem rowD_cov : ∀ {L : List PD} {a b : Nat}, CovW G M a L b → rowD (gpsOf L) (itsOf L) = L
  | [], _, _, _ => by rw [gpsOf, itsOf, rowD]; rfl
  | d :: r, a, b, h => by
    have ih := rowD_cov h.2.2.2
    by_cases h0 : d.n = 0
    · have hg := El_gap h.1 h0
      have hn := h.1.num
      rw [gpsOf, itsOf, if_pos h0, if_pos h0]
      cases hI : itsOf r with
      | nil =>
        rw [rowD, ← hI, ih, ← hg.1]
      | cons i l =>
        have hl := its_low h.2.2.2 (x := i) (by rw [hI]; exact List.mem_cons_self ..)
        rw [rowD, if_pos (by show d.f ≤ i.n; omega), ← hI, ih, ← hg.1]
    · have hg := El_item h.1 h0
      rw [gpsOf, itsOf, if_neg h0, if_neg h0]
      cases hG : gpsOf r with
      | nil =>
        rw [rowD, List.map_cons, rowD_its h.2.2.2 hG, ← hg.1]
      | cons x gs =>
        have hl := gps_low h.2.2.2 (x := x) (by rw [hG]; exact List.mem_cons_self ..)
        rw [rowD, if_neg (by show ¬ x.1 ≤ d.n; omega), ← hG, ih, ← hg.1]
/-- A page as it grows. -/
theorem cov_none {L : List PD} {a m : Nat} (h : CovW G M a L m) (h1 : relB G M m = false) : CovW G M a L (m + 1) :=
  cov_to h (Nat.le_succ m) fun n k1 k2 => by have : n = m := by omega
                                             rw [this]; exact h1
theorem cov_item {L : List PD} {a m : Nat} (h : CovW G M a L m) (hm : 1 ≤ m) (h1 : gonB G m = false) (h2 : gonB M m = true) : CovW G M a (L ++ [PD.ofI (itW M m)]) (m + 1) :=
  cov_app h ⟨.inr ⟨m, rfl, hm, h1, h2⟩, by rw [begI hm]; exact Nat.le_refl _, by rw [begI hm]; intro n k1 k2; omega, by rw [numI]; exact ⟨Nat.le_refl _, fun n k1 k2 => by omega⟩⟩
theorem cov_gap {L : List PD} {a f m : Nat} (h : CovW G M a L f) (hf : 1 ≤ f) (hm : f ≤ m) (h1 : ∀ n, f ≤ n → n ≤ m → gonB G n = true) : CovW G M a (L ++ [PD.ofG (f, m)]) (m + 1) :=
  cov_app h ⟨.inl ⟨f, m, rfl, hf, hm, h1⟩, by rw [begG]; exact Nat.le_refl _, by rw [begG]; intro n k1 k2; omega, by rw [numG]; exact ⟨Nat.le_refl _, fun n k1 k2 => by omega⟩⟩
theorem cov_gap1 {L : List PD} {a m : Nat} (h : CovW G M a L m) (hm : 1 ≤ m) (h1 : gonB G m = true) : CovW G M a (L ++ [PD.ofG (m, m)]) (m + 1) :=
  cov_gap h hm (Nat.le_refl _) fun n k1 k2 => by have : n = m := by omega
                                                 rw [this]; exact h1
theorem snoc_cases {α : Type} (l : List α) : l = [] ∨ ∃ m x, l = m ++ [x] := by
  rcases List.eq_nil_or_concat l with h | ⟨m, x, h⟩
  · exact .inl h
  · exact .inr ⟨m, x, by rw [h, List.concat_eq_append]⟩
theorem cov_more {L : List PD} {a m f : Nat} {gs : List (Nat × Nat)} (h : CovW G M a L m) (hm : 1 ≤ m) (h1 : gonB G m = true) (hg : gpsOf L = gs ++ [(f, m - 1)]) :
    ∃ L', CovW G M a (L' ++ [PD.ofG (f, m)]) (m + 1) ∧ L = L' ++ [PD.ofG (f, m - 1)] ∧ gpsOf L' = gs := by
  rcases snoc_cases L with rfl | ⟨L', d, rfl⟩
  · simp [gpsOf] at hg
  · obtain ⟨h2, h3, h4⟩ := cov_split h
    have h5 := cov_le h4
    by_cases h0 : d.n = 0
    · have hd := El_gap h3 h0
      rw [gps_app, hd.1, gps_G] at hg
      obtain ⟨e1, e2⟩ := List.append_inj' hg rfl
      simp only [List.cons.injEq, Prod.mk.injEq, and_true] at e2
      have hb := h3.num
      refine ⟨L', cov_gap (by rw [← e2.1, ← hd.2.1]; exact h2) (by omega) (by omega) fun n k1 k2 => ?_, by rw [← e2.1, ← e2.2, ← hd.1], e1⟩
      by_cases hn : n = m
      · rw [hn]; exact h1
      · have := (h3.rel (n := n) (by omega) (by omega)).2
        rw [this]; exact decide_eq_true h0
    · exfalso
      have hd := El_item h3 h0
      have e0 : gpsOf [d] = [] := by rw [gpsOf, if_neg h0]; rfl
      rw [gps_app, e0, List.append_nil] at hg
      have := gps_low h2 (x := (f, m - 1)) (by rw [hg]; exact List.mem_append_right _ (List.mem_singleton.2 rfl))
      have h7 : m - 1 < d.beg := this.2.1
      omega
/-- A page is told. -/
theorem wants_cov {next : Nat} {d : PD} (h : ElW G M d) (h1 : next ≤ d.beg) (h2 : d.num ≤ 1099511627776) : wantsB geL next d = true := by
  unfold wantsB mayD
  have hn := h.num
  simp only [Bool.and_eq_true, Bool.or_eq_true, decide_eq_true_eq]
  refine ⟨⟨hn.2, hn.1, h2⟩, h1, ?_⟩
  by_cases h0 : d.n = 0
  · exact .inl h0
  · have hd := El_item h h0
    exact .inr (by rw [hd.2.2.2.1, itW_match]; exact hd.2.2.2.2)
theorem pageL_cov (room : Int) (a en : Nat) (hen : en ≤ 1099511627777) : ∀ (L : List PD) (next : Nat) (out : List PD), CovW G M a out next → CovW G M next L en →
    CovW G M a (pageL geL room L next out).1 (pageL geL room L next out).2.1 ∧ (pageL geL room L next out).2.1 ≤ en ∧
      ((pageL geL room L next out).2.2 = false → CovW G M a (pageL geL room L next out).1 en) ∧ ((pageL geL room L next out).2.2 = true → room < (out.length : Int) + L.length)
  | [], next, out, h, k => by
    rw [pageL]
    exact ⟨h, k.1, fun _ => cov_to h k.1 k.2, fun h => by cases h⟩
  | d :: r, next, out, h, k => by
    have hl := cov_le k.2.2.2
    have hw := wants_cov (next := next) k.1 k.2.1 (by omega)
    rw [pageL, if_pos hw]
    by_cases hr : room ≤ (out.length : Int)
    · rw [if_pos hr]
      have hn := k.1.num
      refine ⟨cov_to h k.2.1 k.2.2.1, by show d.beg ≤ en; omega, (fun h => by cases h), fun _ => ?_⟩
      simp only [List.length_cons]; omega
    · rw [if_neg hr]
      have h2 : CovW G M a (out ++ [d]) (d.num + 1) := cov_app h ⟨k.1, k.2.1, k.2.2.1, Nat.le_refl _, fun n k1 k2 => by omega⟩
      obtain ⟨e1, e2, e3, e4⟩ := pageL_cov room a en hen r (d.num + 1) (out ++ [d]) h2 k.2.2.2
      refine ⟨e1, e2, e3, fun h => ?_⟩
      have := e4 h
      simp only [List.length_append, List.length_cons, List.length_nil] at this ⊢
      omega
theorem pageP_cov (room : Int) (en next : Nat) (last : Bool) (hen : en ≤ 1099511627777) (L : List PD) (k : CovW G M next L en) :
    CovW G M next (pageP geL room en last L next).1 (pageP geL room en last L next).2.1 ∧ (pageP geL room en last L next).2.1 ≤ en ∧
      ((pageP geL room en last L next).2.2 = 1 ∨ ((pageP geL room en last L next).2.2 = 3 ∧ last = true ∧ (pageP geL room en last L next).2.1 = en)) ∧
      ((L.length : Int) ≤ room → (pageP geL room en last L next).2.1 = en ∧ (pageP geL room en last L next).2.2 = if last then 3 else 1) := by
  obtain ⟨h1, h2, h3, h4⟩ := pageL_cov (G := G) (M := M) room next en hen L next [] ⟨Nat.le_refl _, fun n k1 k2 => by omega⟩ k
  unfold pageP
  generalize pageL geL room L next [] = R at *
  obtain ⟨out, nx, b⟩ := R
  dsimp only at h1 h2 h3 h4
  cases b
  · have e : max nx (min en 1099511627777) = en := by have : nx ≤ en := h2; omega
    show CovW G M next out (max nx (min en 1099511627777)) ∧ max nx (min en 1099511627777) ≤ en ∧ ((if last = true then (3 : Int) else 1) = 1 ∨ ((if last = true then (3 : Int) else 1) = 3 ∧ last = true ∧ max nx (min en 1099511627777) = en)) ∧ _
    rw [e]
    refine ⟨h3 rfl, Nat.le_refl _, ?_, fun _ => ⟨e, rfl⟩⟩
    cases last
    · exact .inl rfl
    · exact .inr ⟨rfl, rfl, rfl⟩
  · refine ⟨h1, h2, .inl rfl, fun h => ?_⟩
    have := h4 rfl
    simp only [List.length_nil] at this
    omega
/-- The state of SpliceWhole's law. -/
structure Spl (G M : List Bool) (first D next : Nat) (st cnt : Int) (count asked : Nat) (told : List PD) : Prop where
  cov : CovW G M first told next
  hi : next ≤ max first (D + 1)
  g : G.length ≤ D
  f1 : 1 ≤ first
  ask : st = 2 → cnt = (count : Int) → asked = next
  cle : cnt ≤ (count : Int)
  live : st = 3 → ∀ n, next ≤ n → n ≤ D → relB G M n = false
  asb : asked ≤ next
variable {first D next count asked : Nat} {st cnt : Int} {told : List PD}
theorem Spl.lo (h : Spl G M first D next st cnt count asked told) : first ≤ next := cov_le h.cov
theorem Spl.start (hG : G.length ≤ D) (hf : 1 ≤ first) : Spl G M first D first 0 0 0 0 [] :=
  ⟨⟨Nat.le_refl _, fun n k1 k2 => by omega⟩, Nat.le_max_left _ _, hG, hf, (fun h => absurd h (by decide)), Int.le_refl _, (fun h => absurd h (by decide)), Nat.zero_le _⟩
theorem Spl.lit (h : Spl G M first D next st cnt count asked told) (b : Bool) : Spl G M first D next (if b then 1 else 0) cnt count asked told :=
  ⟨h.cov, h.hi, h.g, h.f1, (fun e => by cases b <;> exact absurd e (by decide)), h.cle, (fun e => by cases b <;> exact absurd e (by decide)), h.asb⟩
theorem Spl.asks (h : Spl G M first D next 1 cnt count asked told) : Spl G M first D next 2 ((count + 1 : Nat) : Int) (count + 1) next told :=
  ⟨h.cov, h.hi, h.g, h.f1, (fun _ _ => rfl), Int.le_refl _, (fun e => absurd e (by decide)), Nat.le_refl _⟩
theorem Spl.asksno (h : Spl G M first D next st cnt count asked told) : Spl G M first D next st cnt (count + 1) asked told :=
  ⟨h.cov, h.hi, h.g, h.f1, (fun _ e => by have := h.cle; omega), by have := h.cle; omega, h.live, h.asb⟩
/-- How far a page looks. -/
def enW (D frm scan : Nat) : Nat := max frm (min (frm + scan) (D + 1))
theorem Spl.page (h : Spl G M first D next 2 (count : Int) count asked told) (hD : D ≤ 1000) (hf : first ≤ 1000) (scan : Nat) (room : Int) {L : List PD} (hL : CovW G M asked L (enW D asked scan)) :
    asked = next ∧ Spl G M first D (pageP geL room (enW D asked scan) (decide (D < enW D asked scan)) L next).2.1 (pageP geL room (enW D asked scan) (decide (D < enW D asked scan)) L next).2.2 (count : Int) count asked (told ++ (pageP geL room (enW D asked scan) (decide (D < enW D asked scan)) L next).1) := by
  have ha := h.ask rfl rfl
  subst ha
  refine ⟨rfl, ?_⟩
  have hhi := h.hi
  have hen : enW D asked scan ≤ max first (D + 1) := by unfold enW; omega
  obtain ⟨k1, k2, k3, _⟩ := pageP_cov (G := G) (M := M) room (enW D asked scan) asked (decide (D < enW D asked scan)) (by omega) L hL
  generalize pageP geL room (enW D asked scan) (decide (D < enW D asked scan)) L asked = R at *
  refine ⟨cov_app h.cov k1, by omega, h.g, h.f1, fun e => ?_, Int.le_refl _, fun e n h1 h2 => ?_, cov_le k1⟩
  · rcases k3 with k3 | ⟨k3, _⟩
    · rw [k3] at e; exact absurd e (by decide)
    · rw [k3] at e; exact absurd e (by decide)
  · rcases k3 with k3 | ⟨_, k4, k5⟩
    · rw [k3] at e; exact absurd e (by decide)
    · have := of_decide_eq_true k4
      omega
theorem Spl.come (h : Spl G M first D next st cnt count asked told) (hD : D + 1 ≤ 1000) (room : Int) :
    Spl G M first (D + 1) (comesP geL room (itW M (D + 1)) next st).2.1 (comesP geL room (itW M (D + 1)) next st).2.2 cnt count asked (told ++ (comesP geL room (itW M (D + 1)) next st).1) := by
  have hhi := h.hi
  have hg : gonB G (D + 1) = false := by
    unfold gonB
    have := h.g
    rw [List.getD_eq_getElem?_getD, List.getElem?_eq_none (by omega)]
    rfl
  have hn : 1 ≤ D + 1 := by omega
  unfold comesP
  by_cases h1 : st = 3 ∧ wantsB geL next (PD.ofI (itW M (D + 1))) = true
  · rw [if_pos h1]
    obtain ⟨rfl, hw⟩ := h1
    unfold wantsB mayD at hw
    rw [begI hn, numI] at hw
    simp only [Bool.and_eq_true, Bool.or_eq_true, decide_eq_true_eq] at hw
    have hnx := hw.2.1
    have hm : gonB M (D + 1) = true := by
      rcases hw.2.2 with h0 | h0
      · have h0 : D + 1 = 0 := h0
        omega
      · have h0 : matchP geL (itW M (D + 1)).av = true := h0
        rwa [itW_match] at h0
    by_cases hr : room < 1
    · rw [if_pos hr]
      show Spl G M first (D + 1) next 1 cnt count asked (told ++ [])
      rw [List.append_nil]
      exact ⟨h.cov, by omega, Nat.le_succ_of_le h.g, h.f1, (fun e => absurd e (by decide)), h.cle, (fun e => absurd e (by decide)), h.asb⟩
    · rw [if_neg hr]
      show Spl G M first (D + 1) (D + 1 + 1) 3 cnt count asked (told ++ [PD.ofI (itW M (D + 1))])
      refine ⟨cov_item (cov_to h.cov hnx fun n k1 k2 => h.live rfl n k1 (by omega)) hn hg hm, by omega, Nat.le_succ_of_le h.g, h.f1, (fun e => absurd e (by decide)), h.cle, (fun _ n k1 k2 => by omega), ?_⟩
      have := h.asb
      omega
  · rw [if_neg h1]
    show Spl G M first (D + 1) next st cnt count asked (told ++ [])
    rw [List.append_nil]
    refine ⟨h.cov, by omega, Nat.le_succ_of_le h.g, h.f1, h.ask, h.cle, fun e n k1 k2 => ?_, h.asb⟩
    subst e
    by_cases hnd : n ≤ D
    · exact h.live rfl n k1 hnd
    · have hn2 : n = D + 1 := by omega
      subst hn2
      unfold relB
      rw [hg, Bool.false_or]
      cases hm : gonB M (D + 1) with
      | false => rfl
      | true =>
        exfalso
        refine h1 ⟨rfl, wants_cov (G := G) (M := M) (.inr ⟨D + 1, rfl, hn, hg, hm⟩) (by rw [begI hn]; exact k1) (by rw [numI]; omega)⟩
/-- The last rounds: how far they are. -/
theorem Spl.round (h : Spl G M first D next 2 (count : Int) count asked told) (hD : D ≤ 1000) (hf : first ≤ 1000) {L : List PD} (hL : CovW G M asked L (enW D asked 8)) (k : Nat) (hk : 1 + 8 * k ≤ next) :
    (pageP geL 99 (enW D asked 8) (decide (D < enW D asked 8)) L next).2.2 = 3 ∨ ((pageP geL 99 (enW D asked 8) (decide (D < enW D asked 8)) L next).2.2 = 1 ∧ 1 + 8 * (k + 1) ≤ (pageP geL 99 (enW D asked 8) (decide (D < enW D asked 8)) L next).2.1) := by
  have ha := h.ask rfl rfl
  subst ha
  have hhi := h.hi
  have hen : enW D asked 8 ≤ max first (D + 1) := by unfold enW; omega
  have h8 : enW D asked 8 ≤ asked + 8 := by unfold enW; omega
  obtain ⟨_, _, _, k4⟩ := pageP_cov (G := G) (M := M) 99 (enW D asked 8) asked (decide (D < enW D asked 8)) (by omega) L hL
  have hl := cov_len hL
  obtain ⟨e1, e2⟩ := k4 (by omega)
  rw [e1, e2]
  by_cases hd : D < enW D asked 8
  · left; rw [decide_eq_true hd]; rfl
  · right
    rw [decide_eq_false hd]
    refine ⟨rfl, ?_⟩
    have : enW D asked 8 = max asked (min (asked + 8) (D + 1)) := rfl
    omega
theorem Spl.over (h : Spl G M first D next st cnt count asked told) (hs : st = 3) : CovW G M first told (max first (D + 1)) := by
  refine cov_to h.cov h.hi fun n k1 k2 => ?_
  have := h.lo
  exact h.live hs n k1 (by omega)
/-- What the last loop knows: it stands ahead of what is told, or within. -/
def AtW (G M : List Bool) (n : Nat) (L : List PD) (b : Nat) : Prop := CovW G M n L b ∨ ∃ d r, L = d :: r ∧ ElW G M d ∧ d.beg ≤ n ∧ n ≤ d.num ∧ CovW G M (d.num + 1) r b
theorem AtW.skip {n b : Nat} {L : List PD} (h : AtW G M n L b) (hn : n < b) (h1 : relB G M n = false) : AtW G M (n + 1) L b := by
  rcases h with h | ⟨d, r, rfl, h2, h3, h4, h5⟩
  · left
    cases L with
    | nil => exact ⟨hn, fun k k1 k2 => h.2 k (by omega) k2⟩
    | cons d r =>
      have hd := h.1.num
      have hne : d.beg ≠ n := fun e => by
        have := (h.1.rel (n := n) (by omega) (by omega)).1
        rw [h1] at this; cases this
      have := h.2.1
      exact ⟨h.1, by omega, fun k k1 k2 => h.2.2.1 k (by omega) k2, h.2.2.2⟩
  · have := (h2.rel h3 h4).1
    rw [h1] at this; cases this
theorem AtW.take {n b : Nat} {L : List PD} (h : AtW G M n L b) (hn : n < b) (h1 : relB G M n = true) :
    ∃ d r, L = d :: r ∧ d.beg ≤ n ∧ n ≤ d.num ∧ gonB G n = decide (d.n = 0) ∧ (n = d.num → AtW G M (n + 1) r b) ∧ (n ≠ d.num → AtW G M (n + 1) L b) := by
  have key : ∃ d r, L = d :: r ∧ ElW G M d ∧ d.beg ≤ n ∧ n ≤ d.num ∧ CovW G M (d.num + 1) r b := by
    rcases h with h | h
    · cases L with
      | nil =>
        have := h.2 n (Nat.le_refl _) hn
        rw [h1] at this; cases this
      | cons d r =>
        have hd := h.1.num
        have hb : ¬ n < d.beg := fun hlt => by
          have := h.2.2.1 n (Nat.le_refl _) hlt
          rw [h1] at this; cases this
        have := h.2.1
        exact ⟨d, r, rfl, h.1, by omega, by omega, h.2.2.2⟩
    · exact h
  obtain ⟨d, r, rfl, h2, h3, h4, h5⟩ := key
  refine ⟨d, r, rfl, h3, h4, (h2.rel h3 h4).2, fun e => .inl ?_, fun e => .inr ⟨d, r, rfl, h2, by omega, by omega, h5⟩⟩
  rw [e]; exact h5
theorem AtW.end {b : Nat} {L : List PD} (h : AtW G M b L b) : L = [] := by
  rcases h with h | ⟨d, r, _, _, _, h4, h5⟩
  · have := cov_len h
    exact List.length_eq_zero_iff.1 (by omega)
  · have := cov_le h5
    omega
end Go.Proofs.YtaklnpjpndkccaaGreat

namespace Go.Proofs.YtaklnpjpndkccaaGreat
open Go.RowKit Go.Sort

abbrev blsC (l : List Bool) : List Value := l.map Value.bool
theorem blsC_len (l : List Bool) : (blsC l).length = l.length := List.length_map ..
theorem ge_any (w : World) : Calls Tryz.prog 18 #[] w fun e w' => ∃ a c, e = .returned (.slice a (List.length geL) c) ∧ Hid (PredR w' (.slice a (List.length geL) c) geL ∧ Ext w w') := by
  go_enter Tryz.func18, Tryz.ntmps18
  go_wp2_with fail
  go_ret
  have h := pred_lit w [⟨⟨[97], 7, ⟨1, 0, [], false⟩, []⟩, .slice none 0 0⟩] (by decide) (fun x hx => by rw [List.mem_singleton.1 hx]; exact Row.nil _ _)
  exact ⟨_, _, rfl, h, (boxes1 w _).1⟩
set_option maxHeartbeats 4000000 in
theorem gone_any (w : World) (gv mv : Value) (D : Int) (G : List Bool) (hg : Row w 1 gv G.length (blsC G)) (n : Nat) (h1 : 1 ≤ n) (h2 : n ≤ 1000) :
    Calls Tryz.prog 20 #[.agg #[gv, mv, .int .i64 D], .int .u64 n] w fun e w' => e = .returned (.bool (gonB G n)) ∧ Ext w w' := by
  obtain ⟨ga, gc, rfl, _, _⟩ := Row.shape hg
  obtain ⟨hx, hb⟩ := boxes1 w (.cells #[.slice ga G.length gc, mv, .int .i64 D] 58)
  have c0 := cell_of_row _ _ 0 _ _ _ hb
  have HX := Lib.hid hx
  obtain ⟨k, hk⟩ : ∃ k, n = k + 1 := ⟨n - 1, by omega⟩
  have q0 : (n : Int) - 1 = (k : Int) := by omega
  have HK := Lib.hid hk
  by_cases h : n ≤ G.length
  · have d1 : decide ((n : Int) ≤ (G.length : Int)) = true := decide_eq_true (by omega)
    have hkl : k < G.length := by omega
    obtain ⟨B, o, rfl⟩ := Row.base hg (by omega) (by decide)
    obtain ⟨b, hb2⟩ : ∃ b, G[k]? = some b := ⟨_, List.getElem?_eq_getElem hkl⟩
    have g0 := hx.cell (Row.cellAt hg (j := k) (u := .bool b) (by rw [blsC, List.getElem?_map, hb2]; rfl) (by omega))
    have he : gonB G n = b := by
      unfold gonB
      rw [List.getD_eq_getElem?_getD, show n - 1 = k by omega, hb2]; rfl
    rw [he]
    clear he hb2 hg hx hb hk
    go_enter Tryz.func20, Tryz.ntmps20
    go_wp2_with fail
    go_ret
    exact ⟨rfl, HX.out⟩
  · have d1 : decide ((n : Int) ≤ (G.length : Int)) = false := decide_eq_false (by omega)
    have he : gonB G n = false := by
      unfold gonB
      rw [List.getD_eq_getElem?_getD, List.getElem?_eq_none (by omega)]; rfl
    rw [he]
    clear he hg hx hb hk
    go_enter Tryz.func20, Tryz.ntmps20
    go_wp2_with fail
    go_ret
    exact ⟨rfl, HX.out⟩
set_option maxRecDepth 100000 in
set_option maxHeartbeats 4000000 in
theorem item_any (w : World) (gv mv : Value) (D : Int) (M : List Bool) (hm : Row w 1 mv M.length (blsC M)) (n : Nat) (h1 : 1 ≤ n) (h2 : n ≤ 1000) :
    Calls Tryz.prog 21 #[.agg #[gv, mv, .int .i64 D], .int .u64 n] w fun e w' => ∃ x : IM, e = .returned (.agg #[.int .u64 x.n, .int .u64 x.t, .string (strOf x.key), .slice x.ha x.av.length x.hc]) ∧ Hid (x.pi = itW M n ∧ AttrO w.heap.size w' x.h x.av ∧ Ext w w') := by
  obtain ⟨ma, mc, rfl, _, _⟩ := Row.shape hm
  obtain ⟨hx1, hb1, hb⟩ := boxes2 w (.cells #[gv, .slice ma M.length mc, .int .i64 D] 58) (.cells #[.int .u64 0, .int .u64 0, .string ⟨#[]⟩, .slice none 0 0] 49)
  have c1 := cell_of_row _ _ 1 _ _ _ hb1
  have HM := Lib.hid (hm.ext hx1)
  have HB := Lib.hid hb
  have HX := Lib.hid hx1
  obtain ⟨k, hk⟩ : ∃ k, n = k + 1 := ⟨n - 1, by omega⟩
  have q0 : (n : Int) - 1 = (k : Int) := by omega
  have HK := Lib.hid hk
  clear hm hx1 hb1 hb hk
  by_cases h : k < M.length
  · have d1 : decide ((k : Int) < (M.length : Int)) = true := decide_eq_true (by omega)
    obtain ⟨B, o, rfl⟩ := Row.base HM.out (by omega) (by decide)
    obtain ⟨b, hb2⟩ : ∃ b, M[k]? = some b := ⟨_, List.getElem?_eq_getElem h⟩
    have g := Row.cellAt HM.out (j := k) (u := .bool b) (by rw [blsC, List.getElem?_map, hb2]; rfl) (by omega)
    have he : gonB M n = b := by
      unfold gonB
      rw [List.getD_eq_getElem?_getD, show n - 1 = k by have := HK.out; omega, hb2]; rfl
    clear hb2
    cases b
    · have HV2 : Hid ((⟨n, 0, [], [([97], ⟨1, -1, [], false⟩)]⟩ : PI) = itW M n) := by show _ = itW M n; unfold itW; rw [he]; rfl
      clear he
      go_enter Tryz.func21, Tryz.ntmps21
      go_wp2_with (first | (go_at_call 42; (with_reducible refine (lawN_any _ _).mono ?_); rintro e w2 ⟨rfl, hx2⟩; have HX2 := Lib.hid hx2; clear hx2) | (go_at_call 41; (with_reducible refine (lawA_any _ _ _ _ _ _).mono ?_); rintro e w3 ⟨rfl, hx3⟩; have HX3 := Lib.hid hx3; clear hx3; have HX3b := Lib.hid (boxes1 w3 (.cells #[.string ⟨#[97]⟩, .int .i64 1, .int .i64 (-1), .string ⟨#[]⟩, .bool false] 82)).1) | (go_at_call 40; (with_reducible refine (lawE_any _ _ _ _).mono ?_); rintro e w4 ⟨rfl, hx4⟩; have HX4 := Lib.hid hx4; clear hx4; have HB4 := Lib.hid (block_later HB.out (((HX2.out.trans HX3.out).trans HX3b.out).trans HX4.out))) | (refine wpList_store_whole 49 (.tmp 4) (.tmp 28) rfl rfl (w.heap.size + 1) rfl #[.int .u64 n, .int .u64 0, .string ⟨#[]⟩, .slice (some ⟨w3.heap.size, 0, none⟩) 1 1] rfl _ 49 HB4.out rfl sizeItem (by simp [Value.oneCell']) ?_))
      have hr := setRow_heap w4 (w.heap.size + 1) _ #[.int .u64 n, .int .u64 0, .string ⟨#[]⟩, .slice (some ⟨w3.heap.size, 0, none⟩) 1 1] 49 (0, 0) HB4.out
      have g0 := cell_of_row _ _ 0 _ _ _ hr
      have g1 := cell_of_row _ _ 1 _ _ _ hr
      have g2 := cell_of_row _ _ 2 _ _ _ hr
      have g3 := cell_of_row _ _ 3 _ _ _ hr
      have hxx := ((HX.out.trans HX2.out).trans HX3.out).trans (HX3b.out.trans HX4.out)
      have hw4 : w.heap.size + 1 < w3.heap.size := Nat.lt_of_lt_of_le (Array.getElem?_eq_some_iff.1 HB.out).1 (HX2.out.trans HX3.out).size
      refine bodyPost_ret (v := .agg #[.int .u64 n, .int .u64 0, .string ⟨#[]⟩, .slice (some ⟨w3.heap.size, 0, none⟩) 1 1]) (by simp [results, Tryz.results21, go_sem, g0, g1, g2, g3]) rfl ⟨⟨n, 0, [], some ⟨w3.heap.size, 0, none⟩, 1, [([97], ⟨1, -1, [], false⟩)]⟩, rfl, HV2.out, ?_, hxx.setRow (by omega) _⟩
      have ho : w4.ownsRow w3.heap.size 82 5 (.slice (some ⟨w3.heap.size, 0, none⟩) 1 1) 1 ([([97], (⟨1, -1, [], false⟩ : V))].flatMap aC) := own_ext (World.ownsRow_lit (base := w3.heap.size) (e := 82) (size := 5) w3 ([([97], (⟨1, -1, [], false⟩ : V))].flatMap aC).toArray 1 (Nat.le_refl _) (by decide) rfl) HX4.out
      exact own_low (own_rowJ ho HB4.out (by decide) _) (by omega)
    · have HV2 : Hid ((⟨n, 0, [], [([97], ⟨1, 1, [], false⟩)]⟩ : PI) = itW M n) := by show _ = itW M n; unfold itW; rw [he]; rfl
      clear he
      go_enter Tryz.func21, Tryz.ntmps21
      go_wp2_with (first | (go_at_call 42; (with_reducible refine (lawN_any _ _).mono ?_); rintro e w2 ⟨rfl, hx2⟩; have HX2 := Lib.hid hx2; clear hx2) | (go_at_call 41; (with_reducible refine (lawA_any _ _ _ _ _ _).mono ?_); rintro e w3 ⟨rfl, hx3⟩; have HX3 := Lib.hid hx3; clear hx3; have HX3b := Lib.hid (boxes1 w3 (.cells #[.string ⟨#[97]⟩, .int .i64 1, .int .i64 1, .string ⟨#[]⟩, .bool false] 82)).1) | (go_at_call 40; (with_reducible refine (lawE_any _ _ _ _).mono ?_); rintro e w4 ⟨rfl, hx4⟩; have HX4 := Lib.hid hx4; clear hx4; have HB4 := Lib.hid (block_later HB.out (((HX2.out.trans HX3.out).trans HX3b.out).trans HX4.out))) | (refine wpList_store_whole 49 (.tmp 4) (.tmp 28) rfl rfl (w.heap.size + 1) rfl #[.int .u64 n, .int .u64 0, .string ⟨#[]⟩, .slice (some ⟨w3.heap.size, 0, none⟩) 1 1] rfl _ 49 HB4.out rfl sizeItem (by simp [Value.oneCell']) ?_))
      have hr := setRow_heap w4 (w.heap.size + 1) _ #[.int .u64 n, .int .u64 0, .string ⟨#[]⟩, .slice (some ⟨w3.heap.size, 0, none⟩) 1 1] 49 (0, 0) HB4.out
      have g0 := cell_of_row _ _ 0 _ _ _ hr
      have g1 := cell_of_row _ _ 1 _ _ _ hr
      have g2 := cell_of_row _ _ 2 _ _ _ hr
      have g3 := cell_of_row _ _ 3 _ _ _ hr
      have hxx := ((HX.out.trans HX2.out).trans HX3.out).trans (HX3b.out.trans HX4.out)
      have hw4 : w.heap.size + 1 < w3.heap.size := Nat.lt_of_lt_of_le (Array.getElem?_eq_some_iff.1 HB.out).1 (HX2.out.trans HX3.out).size
      refine bodyPost_ret (v := .agg #[.int .u64 n, .int .u64 0, .string ⟨#[]⟩, .slice (some ⟨w3.heap.size, 0, none⟩) 1 1]) (by simp [results, Tryz.results21, go_sem, g0, g1, g2, g3]) rfl ⟨⟨n, 0, [], some ⟨w3.heap.size, 0, none⟩, 1, [([97], ⟨1, 1, [], false⟩)]⟩, rfl, HV2.out, ?_, hxx.setRow (by omega) _⟩
      have ho : w4.ownsRow w3.heap.size 82 5 (.slice (some ⟨w3.heap.size, 0, none⟩) 1 1) 1 ([([97], (⟨1, 1, [], false⟩ : V))].flatMap aC) := own_ext (World.ownsRow_lit (base := w3.heap.size) (e := 82) (size := 5) w3 ([([97], (⟨1, 1, [], false⟩ : V))].flatMap aC).toArray 1 (Nat.le_refl _) (by decide) rfl) HX4.out
      exact own_low (own_rowJ ho HB4.out (by decide) _) (by omega)
  · have d1 : decide ((k : Int) < (M.length : Int)) = false := decide_eq_false (by omega)
    have he : gonB M n = false := by
      unfold gonB
      rw [List.getD_eq_getElem?_getD, List.getElem?_eq_none (by have := HK.out; omega)]; rfl
    have HV2 : Hid ((⟨n, 0, [], [([97], ⟨1, -1, [], false⟩)]⟩ : PI) = itW M n) := by show _ = itW M n; unfold itW; rw [he]; rfl
    clear he
    go_enter Tryz.func21, Tryz.ntmps21
    go_wp2_with (first | (go_at_call 42; (with_reducible refine (lawN_any _ _).mono ?_); rintro e w2 ⟨rfl, hx2⟩; have HX2 := Lib.hid hx2; clear hx2) | (go_at_call 41; (with_reducible refine (lawA_any _ _ _ _ _ _).mono ?_); rintro e w3 ⟨rfl, hx3⟩; have HX3 := Lib.hid hx3; clear hx3; have HX3b := Lib.hid (boxes1 w3 (.cells #[.string ⟨#[97]⟩, .int .i64 1, .int .i64 (-1), .string ⟨#[]⟩, .bool false] 82)).1) | (go_at_call 40; (with_reducible refine (lawE_any _ _ _ _).mono ?_); rintro e w4 ⟨rfl, hx4⟩; have HX4 := Lib.hid hx4; clear hx4; have HB4 := Lib.hid (block_later HB.out (((HX2.out.trans HX3.out).trans HX3b.out).trans HX4.out))) | (refine wpList_store_whole 49 (.tmp 4) (.tmp 28) rfl rfl (w.heap.size + 1) rfl #[.int .u64 n, .int .u64 0, .string ⟨#[]⟩, .slice (some ⟨w3.heap.size, 0, none⟩) 1 1] rfl _ 49 HB4.out rfl sizeItem (by simp [Value.oneCell']) ?_))
    have hr := setRow_heap w4 (w.heap.size + 1) _ #[.int .u64 n, .int .u64 0, .string ⟨#[]⟩, .slice (some ⟨w3.heap.size, 0, none⟩) 1 1] 49 (0, 0) HB4.out
    have g0 := cell_of_row _ _ 0 _ _ _ hr
    have g1 := cell_of_row _ _ 1 _ _ _ hr
    have g2 := cell_of_row _ _ 2 _ _ _ hr
    have g3 := cell_of_row _ _ 3 _ _ _ hr
    have hxx := ((HX.out.trans HX2.out).trans HX3.out).trans (HX3b.out.trans HX4.out)
    have hw4 : w.heap.size + 1 < w3.heap.size := Nat.lt_of_lt_of_le (Array.getElem?_eq_some_iff.1 HB.out).1 (HX2.out.trans HX3.out).size
    refine bodyPost_ret (v := .agg #[.int .u64 n, .int .u64 0, .string ⟨#[]⟩, .slice (some ⟨w3.heap.size, 0, none⟩) 1 1]) (by simp [results, Tryz.results21, go_sem, g0, g1, g2, g3]) rfl ⟨⟨n, 0, [], some ⟨w3.heap.size, 0, none⟩, 1, [([97], ⟨1, -1, [], false⟩)]⟩, rfl, HV2.out, ?_, hxx.setRow (by omega) _⟩
    have ho : w4.ownsRow w3.heap.size 82 5 (.slice (some ⟨w3.heap.size, 0, none⟩) 1 1) 1 ([([97], (⟨1, -1, [], false⟩ : V))].flatMap aC) := own_ext (World.ownsRow_lit (base := w3.heap.size) (e := 82) (size := 5) w3 ([([97], (⟨1, -1, [], false⟩ : V))].flatMap aC).toArray 1 (Nat.le_refl _) (by decide) rfl) HX4.out
    exact own_low (own_rowJ ho HB4.out (by decide) _) (by omega)
end Go.Proofs.YtaklnpjpndkccaaGreat

namespace Go.Proofs.YtaklnpjpndkccaaGreat
open Go.RowKit Go.Sort

def Fact.prW (p : List C) : Fact := ⟨fun v w => PredR w v p, fun _ _ _ hx h => PredR.ext h hx⟩
theorem sizePageW : (Tryz.prog.info? 34).map (·.size) = some 5 := by kernel_rfl
/-- A page of a store as it grows. -/
structure PgW (w W : World) (G M : List Bool) (gv mv : Value) (D frm en m : Nat) (L : List PD) (I : List IM) (hi hg : Value) : Prop where
  st : W.heap[w.heap.size]? = some (.cells #[gv, mv, .int .i64 D] 58 (0, 0))
  rs : W.heap[w.heap.size + 1]? = some (.cells #[.int .u64 0, .int .u64 0, .slice none 0 0, .slice none 0 0, .bool false] 34 (0, 0))
  bx : W.heap[w.heap.size + 1 + 1]? = some (.cells #[.int .u64 frm, .int .u64 en, hi, hg, .bool false] 34 (0, 0))
  x : Ext w W
  cov : CovW G M frm L m
  it : I.map IM.pi = itsOf L
  ir : W.ownsRow w.heap.size 49 4 hi I.length (I.flatMap imC)
  hat : ∀ y ∈ I, AttrO w.heap.size W y.h y.av
  gr : W.ownsRow w.heap.size 51 2 hg (gpsOf L).length ((gpsOf L).flatMap gpC)
section
variable {w W W2 : World} {G M : List Bool} {gv mv : Value} {D frm en m : Nat} {L : List PD} {I : List IM} {hi hg : Value}
theorem PgW.later (h : PgW w W G M gv mv D frm en m L I hi hg) (k : Ext W W2) : PgW w W2 G M gv mv D frm en m L I hi hg :=
  ⟨block_later h.st k, block_later h.rs k, block_later h.bx k, h.x.trans k, h.cov, h.it, own_ext h.ir k, fun y hy => own_ext (h.hat y hy) k, own_ext h.gr k⟩
theorem PgW.lenI (h : PgW w W G M gv mv D frm en m L I hi hg) : I.length ≤ L.length := by
  have : I.length = (itsOf L).length := by rw [← h.it, List.length_map]
  rw [this]
  clear this h
  induction L with
  | nil => exact Nat.le_refl _
  | cons d r ih => rw [itsOf]; split <;> simp only [List.length_cons] <;> omega
theorem lenG : ∀ (L : List PD), (gpsOf L).length ≤ L.length
  | [] => Nat.le_refl _
  | d :: r => by have := lenG r; rw [gpsOf]; split <;> simp only [List.length_cons] <;> omega
theorem PgW.skip (h : PgW w W G M gv mv D frm en m L I hi hg) (h1 : relB G M m = false) : PgW w W G M gv mv D frm en (m + 1) L I hi hg :=
  ⟨h.st, h.rs, h.bx, h.x, cov_none h.cov h1, h.it, h.ir, h.hat, h.gr⟩
/-- The page's box is set; no other. -/
theorem PgW.set2 (h : PgW w W G M gv mv D frm en m L I hi hg) {L' : List PD} {I' : List IM} {hi' : Value} {W1 : World} {m' : Nat} (hgr : W.grownBy W1 hi.ownBlock) (hc : CovW G M frm L' m') (hit : I'.map IM.pi = itsOf L') (hgp : gpsOf L' = gpsOf L)
    (hir : W1.ownsRow w.heap.size 49 4 hi' I'.length (I'.flatMap imC)) (hat : ∀ y ∈ I', AttrO w.heap.size W1 y.h y.av) : PgW w (W1.setCell ⟨w.heap.size + 1 + 1, 2, none⟩ hi') G M gv mv D frm en m' L' I' hi' hg := by
  have k : ∀ {b : Nat} {c : Array Value} {t : TypeId}, W.heap[b]? = some (.cells c t (0, 0)) → 49 ≠ t → W1.heap[b]? = some (.cells c t (0, 0)) := fun hb ht => (hgr.block _ (Array.getElem?_eq_some_iff.1 hb).1 (fun e => own_ne h.ir hb ht e.symm)).trans hb
  have kb := k h.bx (by decide)
  have hx1 : Ext w W1 := h.x.grown_none hgr (own_base h.ir)
  refine ⟨?_, ?_, ?_, hx1.setCell (p := ⟨w.heap.size + 1 + 1, 2, none⟩) (by show w.heap.size ≤ w.heap.size + 1 + 1; omega) _, hc, hit, own_setJ hir kb (by decide) _ _, fun y hy => own_setJ (hat y hy) kb (by decide) _ _, ?_⟩
  · exact (setCell_block_far W1 ⟨w.heap.size + 1 + 1, 2, none⟩ hi' _ (by show w.heap.size ≠ w.heap.size + 1 + 1; omega)).trans (k h.st (by decide))
  · exact (setCell_block_far W1 ⟨w.heap.size + 1 + 1, 2, none⟩ hi' _ (by show w.heap.size + 1 ≠ w.heap.size + 1 + 1; omega)).trans (k h.rs (by decide))
  · have := setCell_blockJ 2 hi' kb
    simpa only [List.setIfInBounds_toArray, List.set_cons_zero, List.set_cons_succ] using this
  · rw [hgp]
    exact own_setJ (own_keep h.gr hgr (own_apart h.ir h.gr (by decide))) kb (by decide) _ _
theorem PgW.set3 (h : PgW w W G M gv mv D frm en m L I hi hg) {L' : List PD} {hg' : Value} {W1 : World} {m' : Nat} (hgr : W.grownBy W1 hg.ownBlock) (hc : CovW G M frm L' m') (hit : itsOf L' = itsOf L)
    (hgg : W1.ownsRow w.heap.size 51 2 hg' (gpsOf L').length ((gpsOf L').flatMap gpC)) : PgW w (W1.setCell ⟨w.heap.size + 1 + 1, 3, none⟩ hg') G M gv mv D frm en m' L' I hi hg' := by
  have k : ∀ {b : Nat} {c : Array Value} {t : TypeId}, W.heap[b]? = some (.cells c t (0, 0)) → 51 ≠ t → W1.heap[b]? = some (.cells c t (0, 0)) := fun hb ht => (hgr.block _ (Array.getElem?_eq_some_iff.1 hb).1 (fun e => own_ne h.gr hb ht e.symm)).trans hb
  have kb := k h.bx (by decide)
  have hx1 : Ext w W1 := h.x.grown_none hgr (own_base h.gr)
  refine ⟨?_, ?_, ?_, hx1.setCell (p := ⟨w.heap.size + 1 + 1, 3, none⟩) (by show w.heap.size ≤ w.heap.size + 1 + 1; omega) _, hc, h.it.trans hit.symm, own_setJ (own_keep h.ir hgr (own_apart h.gr h.ir (by decide))) kb (by decide) _ _, fun y hy => own_setJ (own_keep (h.hat y hy) hgr (own_apart h.gr (h.hat y hy) (by decide))) kb (by decide) _ _, ?_⟩
  · exact (setCell_block_far W1 ⟨w.heap.size + 1 + 1, 3, none⟩ hg' _ (by show w.heap.size ≠ w.heap.size + 1 + 1; omega)).trans (k h.st (by decide))
  · exact (setCell_block_far W1 ⟨w.heap.size + 1 + 1, 3, none⟩ hg' _ (by show w.heap.size + 1 ≠ w.heap.size + 1 + 1; omega)).trans (k h.rs (by decide))
  · have := setCell_blockJ 3 hg' kb
    simpa only [List.setIfInBounds_toArray, List.set_cons_zero, List.set_cons_succ] using this
  · exact own_setJ hgg kb (by decide) _ _
/-- The last gap grows where it lies. -/
theorem PgW.setg (h : PgW w W G M gv mv D frm en m L I hi hg) {L' : List PD} {W1 : World} {m' : Nat} (hgr : W.grownBy W1 hg.ownBlock) (hc : CovW G M frm L' m') (hit : itsOf L' = itsOf L)
    (hgg : W1.ownsRow w.heap.size 51 2 hg (gpsOf L').length ((gpsOf L').flatMap gpC)) : PgW w W1 G M gv mv D frm en m' L' I hi hg := by
  have k : ∀ {b : Nat} {c : Array Value} {t : TypeId}, W.heap[b]? = some (.cells c t (0, 0)) → 51 ≠ t → W1.heap[b]? = some (.cells c t (0, 0)) := fun hb ht => (hgr.block _ (Array.getElem?_eq_some_iff.1 hb).1 (fun e => own_ne h.gr hb ht e.symm)).trans hb
  exact ⟨k h.st (by decide), k h.rs (by decide), k h.bx (by decide), h.x.grown_none hgr (own_base h.gr), hc, h.it.trans hit.symm, own_keep h.ir hgr (own_apart h.gr h.ir (by decide)), fun y hy => own_keep (h.hat y hy) hgr (own_apart h.gr (h.hat y hy) (by decide)), hgg⟩
end
theorem PgW.kb2 {w W W1 : World} {G M : List Bool} {gv mv : Value} {D frm en m : Nat} {L : List PD} {I : List IM} {hi hg : Value} (h : PgW w W G M gv mv D frm en m L I hi hg) (hgr : W.grownBy W1 hi.ownBlock) : W1.heap[w.heap.size + 1 + 1]? = some (.cells #[.int .u64 frm, .int .u64 en, hi, hg, .bool false] 34 (0, 0)) :=
  (hgr.block _ (Array.getElem?_eq_some_iff.1 h.bx).1 (fun e => own_ne h.ir h.bx (by decide) e.symm)).trans h.bx
theorem PgW.kb3 {w W W1 : World} {G M : List Bool} {gv mv : Value} {D frm en m : Nat} {L : List PD} {I : List IM} {hi hg : Value} (h : PgW w W G M gv mv D frm en m L I hi hg) (hgr : W.grownBy W1 hg.ownBlock) : W1.heap[w.heap.size + 1 + 1]? = some (.cells #[.int .u64 frm, .int .u64 en, hi, hg, .bool false] 34 (0, 0)) :=
  (hgr.block _ (Array.getElem?_eq_some_iff.1 h.bx).1 (fun e => own_ne h.gr h.bx (by decide) e.symm)).trans h.bx
theorem own_baseW {w : World} {base size n : Nat} {e : TypeId} {a : Option Addr} {m c : Nat} {xs : List Value} (h : w.ownsRow base e size (.slice a m c) n xs) (hn : 0 < n) : ∃ B, a = some ⟨B, 0, none⟩ ∧ ∃ cur, w.heap[B]? = some (.cells cur e (0, 0)) := by
  rcases h.2 with ⟨e0, h0⟩ | ⟨g, cap, cur, e0, _, hg, _⟩
  · omega
  · cases e0; exact ⟨g, rfl, cur, hg⟩
theorem gp_len (gs : List (Nat × Nat)) : (gs.flatMap gpC).length = gs.length * 2 := by
  induction gs with
  | nil => rfl
  | cons x r ih => rw [List.flatMap_cons, List.length_append, ih, gpC_len, List.length_cons]; omega
theorem gp_last (gs : List (Nat × Nat)) (f g : Nat) : ((gs ++ [(f, g)]).flatMap gpC)[gs.length * 2 + 1]? = some (.int .u64 (g : Nat)) := by
  rw [List.flatMap_append, List.getElem?_append_right (by rw [gp_len]; omega), gp_len, show gs.length * 2 + 1 - gs.length * 2 = 1 by omega]
  rfl
theorem gp_lt (gs : List (Nat × Nat)) (f g : Nat) : gs.length * 2 + 1 < ((gs ++ [(f, g)]).flatMap gpC).length := by
  rw [gp_len, List.length_append, List.length_singleton]; omega
theorem gp_set (gs : List (Nat × Nat)) (f g m : Nat) : ((gs ++ [(f, g)]).flatMap gpC).set (gs.length * 2 + 1) (.int .u64 (m : Nat)) = (gs ++ [(f, m)]).flatMap gpC := by
  rw [List.flatMap_append, List.flatMap_append, List.set_append_right _ _ (by rw [gp_len]; omega), gp_len, show gs.length * 2 + 1 - gs.length * 2 = 1 by omega]
  rfl
/-- What stands behind a page. -/
structure PgO (w W : World) (G M : List Bool) (frm en : Nat) (L : List PD) (I : List IM) (hi hg : Value) : Prop where
  cov : CovW G M frm L en
  it : I.map IM.pi = itsOf L
  ir : ImR W hi I
  gr : GpR W hg (gpsOf L)
  x : Ext w W
set_option maxRecDepth 100000 in
set_option maxHeartbeats 8000000 in
theorem page_any (w : World) (gv mv : Value) (D : Nat) (G M : List Bool) (hg : Row w 1 gv G.length (blsC G)) (hm : Row w 1 mv M.length (blsC M)) (hD : D ≤ 900) (frm : Nat) (hf1 : 1 ≤ frm) (hf2 : frm ≤ 900) (scan : Nat) (hs : scan ≤ 8) :
    Calls Tryz.prog 19 #[.agg #[gv, mv, .int .i64 D], .int .u64 frm, .int .i64 scan] w
      fun e w' => ∃ L I hi hg, e = .returned (.agg #[.int .u64 frm, .int .u64 (enW D frm scan : Nat), hi, hg, .bool (decide (D < enW D frm scan))]) ∧ Hid (PgO w w' G M frm (enW D frm scan) L I hi hg) := by
  obtain ⟨en, hen⟩ : ∃ en, en = enW D frm scan := ⟨_, rfl⟩
  rw [← hen]
  have qe : max (frm : Int) (min ((frm : Int) + (scan : Int)) ((D : Int) + 1)) = (en : Int) := by rw [hen]; unfold enW; omega
  have he1 : frm ≤ en := by rw [hen]; unfold enW; omega
  have he2 : en ≤ 1000 := by rw [hen]; unfold enW; omega
  obtain ⟨hx3, k0, k1, k2⟩ := boxes3 w (.cells #[gv, mv, .int .i64 D] 58) (.cells #[.int .u64 0, .int .u64 0, .slice none 0 0, .slice none 0 0, .bool false] 34) (.cells #[.int .u64 frm, .int .u64 en, .slice none 0 0, .slice none 0 0, .bool false] 34)
  have HP0 := Lib.hid (PgW.mk (G := G) (M := M) (gv := gv) (mv := mv) (D := D) (frm := frm) (en := en) (m := frm) (L := []) (I := []) (hi := .slice none 0 0) (hg := .slice none 0 0) k0 k1 k2 hx3 ⟨Nat.le_refl _, fun n k1 k2 => by omega⟩ rfl (own_none _ _ _ _) (fun _ h => by cases h) (own_none _ _ _ _))
  have c2 := cell_of_row _ _ 2 _ _ _ ((boxes2 w (.cells #[gv, mv, .int .i64 D] 58) (.cells #[.int .u64 0, .int .u64 0, .slice none 0 0, .slice none 0 0, .bool false] 34)).2.1)
  have HG := Lib.hid hg
  have HM := Lib.hid hm
  have HE := Lib.hid hen
  clear hx3 k0 k1 k2 hg hm hen
  go_enter Tryz.func19, Tryz.ntmps19
  go_wp2_with fail
  go_loopw [8] (fun mv' wr => ∃ (m : Nat) (L : List PD) (I : List IM) (hi hg : Value), mv' = .int .u64 m ∧ frm ≤ m ∧ m ≤ en ∧ Hid (PgW w wr G M gv mv D frm en m L I hi hg)) (fun mv' _ => en - (intOf mv').toNat)
  case atStart => exact ⟨frm, [], [], _, _, rfl, Nat.le_refl _, he1, HP0.out⟩
  case round =>
    clear HP0 c2
    obtain ⟨m, L, I, hi, hg, rfl, hm1, hm2, hP⟩ := hrel
    obtain ⟨hia, hic, rfl, _, _⟩ := own_shape hP.out.ir
    obtain ⟨hga, hgc, rfl, _, _⟩ := own_shape hP.out.gr
    have st0 := cell_of_row _ _ 0 _ _ _ hP.out.st
    have st1 := cell_of_row _ _ 1 _ _ _ hP.out.st
    have st2 := cell_of_row _ _ 2 _ _ _ hP.out.st
    have bx1 := cell_of_row _ _ 1 _ _ _ hP.out.bx
    by_cases h : m < en
    · have d1 : decide ((m : Int) < (en : Int)) = true := decide_eq_true (by omega)
      have d1' : decide (m < en) = true := decide_eq_true h
      have CI := Lib.hid (item_any wr gv mv D M (HM.out.ext hP.out.x) m (by omega) (by omega))
      have CG : Hid (∀ W, Ext wr W → Calls Tryz.prog 20 #[.agg #[gv, mv, .int .i64 D], .int .u64 m] W fun e w' => e = .returned (.bool (gonB G m)) ∧ Ext W w') := fun W hW => gone_any W gv mv D G (HG.out.ext (hP.out.x.trans hW)) m (by omega) (by omega)
      go_upto_region 6 with (go_at_call 21; refine CI.out.mono ?_; rintro e w2 ⟨x, rfl, hx⟩)
      clear st0 st1 st2 bx1 CI
      obtain ⟨hxp, hxa, hx2⟩ := hx.out
      obtain ⟨hx3, hxb⟩ := boxes1 w2 (.cells #[.int .u64 x.n, .int .u64 x.t, .string (strOf x.key), .slice x.ha x.av.length x.hc] 49)
      have HXB := Lib.hid hxb
      have HXP := Lib.hid hxp
      have HX3 := Lib.hid (hx2.trans hx3)
      have HXA : Hid (AttrO w.heap.size (w2.alloc (.cells #[.int .u64 x.n, .int .u64 x.t, .string (strOf x.key), .slice x.ha x.av.length x.hc] 49)) x.h x.av) := own_low (own_ext hxa hx3) hP.out.x.size
      have HP3 := Lib.hid (hP.out.later (hx2.trans hx3))
      have HST := Lib.hid HP3.out.st
      have CM : Hid (∀ W, Ext wr W → ∀ v, PredR W v geL → AttrR W x.h x.av → Calls Tryz.prog 17 #[v, .agg #[.string (strOf x.key), x.h]] W fun e w' => e = .returned (.bool (gonB M m)) ∧ Ext W w') := fun W hW v hv ha => by
        have := matches_any W v geL x.key x.h x.av hv ha
        have e1 : x.av = (itW M m).av := congrArg PI.av HXP.out
        rw [show matchP geL x.av = gonB M m by rw [e1]; exact itW_match M m] at this
        exact this
      clear hP hx hxp hxa hx2 hx3 hxb
      cases hgb : gonB G m with
      | false =>
        cases hmb : gonB M m with
        | true =>
          rw [hgb] at CG
          rw [hmb] at CM
          have HMB := Lib.hid hmb
          clear hmb
          have HGB := Lib.hid hgb
          clear hgb
          refine wp_region_facts [Fact.eq (.agg #[gv, mv, .int .i64 D]),
              Fact.eq (.int .u64 m),
              Fact.eq (.bool false),
              Fact.eq (.bool true),
              Fact.eq (.bool true),
              Fact.prW geL,
              Fact.eq (.pointer (some ⟨w2.heap.size, 2, none⟩)),
              Fact.eq (.agg #[.string (strOf x.key), .slice x.ha x.av.length x.hc]),
              Fact.eq (.bool true),
              Fact.eq (.bool true),
              Fact.eq (.bool true)]
            [[], [], [(0, 34), (1, 35)], [(2, 36)], [(3, 37)], [(4, 38)], [(4, 38)], [(6, 40), (4, 38)], [(5, 39), (7, 41), (4, 38)], [(4, 38), (8, 42)], [(9, 43)]]
            [(0, 34), (1, 35), (2, 36), (3, 37), (4, 38), (5, 39), (6, 40), (7, 41), (8, 42), (9, 43), (10, 33)] (by kernel_rfl) (by kernel_rfl) ?_ ?_
          · refine ⟨?_, ?_, ?_, ?_, ?_, ?_, ?_, ?_, ?_, ?_, ?_, trivial⟩
            · intro w1 hx1; change wpList _ _ _ _ _ _; have m0 := cell_of_row _ _ 0 _ _ _ (block_later HST.out hx1); have m1 := cell_of_row _ _ 1 _ _ _ (block_later HST.out hx1); have m2 := cell_of_row _ _ 2 _ _ _ (block_later HST.out hx1); go_wp2_with fail; exact ⟨rfl, Ext.refl _, rfl, rfl⟩
            · intro w1 hx1; change wpList _ _ _ _ _ _; exact ob_move rfl rfl rfl rfl rfl
            · intro w1 hx1; rintro _ rfl; rintro _ rfl; change wpList _ _ _ _ _ _; go_wp2_with fail; refine (CG.out _ (HX3.out.trans hx1)).mono ?_; rintro e w2 ⟨rfl, hx2⟩; go_wp2_with fail; exact ⟨rfl, hx2, rfl, rfl⟩
            · intro w1 hx1; rintro _ rfl; change wpList _ _ _ _ _ _; go_wp2_with fail; exact ⟨rfl, Ext.refl _, rfl, rfl⟩
            · intro w1 hx1; rintro _ rfl; change wpList _ _ _ _ _ _; exact ob_move rfl rfl rfl rfl rfl
            · intro w1 hx1; rintro _ rfl; change wpList _ _ _ _ _ _; go_wp2_with fail; refine (ge_any _).mono ?_; rintro e w9 ⟨ga, gc, rfl, hh⟩; go_wp2_with fail; exact ⟨rfl, hh.out.2, rfl, hh.out.1⟩
            · intro w1 hx1; rintro _ rfl; change wpList _ _ _ _ _ _; go_wp2_with fail; exact ⟨rfl, Ext.refl _, rfl, rfl⟩
            · intro w1 hx1; rintro _ rfl; rintro _ rfl; change wpList _ _ _ _ _ _; have m2 := cell_of_row _ _ 2 _ _ _ (block_later HXB.out hx1); have m3 := cell_of_row _ _ 3 _ _ _ (block_later HXB.out hx1); go_wp2_with fail; exact ⟨rfl, Ext.refl _, rfl, rfl⟩
            · intro w1 hx1; intro v39 h39; rintro _ rfl; rintro _ rfl; change wpList _ _ _ _ _ _; go_wp2_with fail; refine (CM.out _ (HX3.out.trans hx1) _ h39 (Row.of_own (own_ext HXA.out hx1))).mono ?_; rintro e w2 ⟨rfl, hx2⟩; go_wp2_with fail; exact ⟨rfl, hx2, rfl, rfl⟩
            · intro w1 hx1; rintro _ rfl; rintro _ rfl; change wpList _ _ _ _ _ _; exact ob_pick rfl rfl rfl rfl rfl rfl
            · intro w1 hx1; rintro _ rfl; change wpList _ _ _ _ _ _; exact ob_assign rfl rfl rfl rfl rfl
          · intro w1 hx1; rintro _ rfl; rintro _ rfl; rintro _ rfl; rintro _ rfl; rintro _ rfl; intro v39 h39; rintro _ rfl; rintro _ rfl; rintro _ rfl; rintro _ rfl; rintro _ rfl; refine depsThen_nil ?_; dsimp only; simp only [Act.put, List.setIfInBounds_toArray, List.set_cons_zero, List.set_cons_succ]
            replace h39 : (Fact.prW geL).p v39 w1 := h39
            have HP1 := Lib.hid (HP3.out.later hx1)
            have HXB1 := Lib.hid (block_later HXB.out hx1)
            have HXA1 : Hid (AttrO w.heap.size _ x.h x.av) := Lib.hid (own_ext HXA.out hx1)
            have HX31 := Lib.hid (HX3.out.trans hx1)
            clear hx1 HP3 HXB HXA HST
            have b2 := cell_of_row _ _ 2 _ _ _ HP1.out.bx
            have x0 := cell_of_row _ _ 0 _ _ _ HXB1.out
            have x1 := cell_of_row _ _ 1 _ _ _ HXB1.out
            have x2 := cell_of_row _ _ 2 _ _ _ HXB1.out
            have x3 := cell_of_row _ _ 3 _ _ _ HXB1.out
            have HLI : Hid (I.length ≤ 1000) := by have h1 := HP1.out.lenI; have h2 := cov_len HP1.out.cov; show _ ≤ _; omega
            go_wp2_with (at_builtin; refine wpList_append_row 31 49 (.tmp 45) (.tmp 47) rfl w.heap.size _ 4 56 Tryz.underlying31 infoItem rfl (by decide) rfl _ I.length (I.flatMap imC) rfl (own_ext HP1.out.ir (boxes1 _ (.cells #[.int .u64 x.n, .int .u64 x.t, .string (strOf x.key), .slice x.ha x.av.length x.hc] 49)).1) 1 (imC x) (Row.of_own (World.ownsRow_lit (base := w1.heap.size) (e := 49) (size := 4) w1 (imC x).toArray 1 (Nat.le_refl _) (by decide) rfl)) (imC_one x) (by have := HLI.out; omega) (by have := HLI.out; unfold maxLen; omega) (HP1.out.x.trans (boxes1 _ _).1).size ?_; intro v9 w9 hown9 hg9; obtain ⟨va, vc, rfl, _, _⟩ := own_shape hown9; have HO9 := Lib.hid hown9; have HG9 := Lib.hid hg9; have kb := ((HP1.out.later (boxes1 w1 (.cells #[.int .u64 x.n, .int .u64 x.t, .string (strOf x.key), .slice x.ha x.av.length x.hc] 49)).1).kb2 hg9); have z2 := frozen_of_row _ _ 2 _ _ kb; have y2 := cell_of_row _ _ 2 _ _ _ kb; clear hown9 hg9 kb)
            go_roundw
            case rel =>
              have HP9 := HP1.out.later (boxes1 w1 (.cells #[.int .u64 x.n, .int .u64 x.t, .string (strOf x.key), .slice x.ha x.av.length x.hc] 49)).1
              have e9 : (I ++ [x]).length = I.length + 1 := by rw [List.length_append]; rfl
              refine ⟨m + 1, L ++ [PD.ofI (itW M m)], I ++ [x], _, _, by rw [Int.natCast_add]; rfl, by omega, by omega, HP9.set2 HG9.out (cov_item HP9.cov (by omega) HGB.out HMB.out) ?_ ?_ ?_ ?_⟩
              · rw [List.map_append, HP9.it, its_app, its_I (by omega), List.map_singleton, HXP.out]
              · rw [gps_app, gps_I (by omega), List.append_nil]
              · rw [e9, List.flatMap_append]; simpa using HO9.out
              · intro y hy
                rcases List.mem_append.1 hy with hy | hy
                · exact own_keep (HP9.hat y hy) HG9.out (own_apart HP9.ir (HP9.hat y hy) (by decide))
                · rw [List.mem_singleton.1 hy]
                  have := own_ext HXA1.out (boxes1 w1 (.cells #[.int .u64 x.n, .int .u64 x.t, .string (strOf x.key), .slice x.ha x.av.length x.hc] 49)).1
                  exact own_keep this HG9.out (own_apart HP9.ir this (by decide))
            case measure => simp [intOf]; omega
        | false =>
          rw [hgb] at CG
          rw [hmb] at CM
          have HMB := Lib.hid hmb
          clear hmb
          have HGB := Lib.hid hgb
          clear hgb
          refine wp_region_facts [Fact.eq (.agg #[gv, mv, .int .i64 D]),
              Fact.eq (.int .u64 m),
              Fact.eq (.bool false),
              Fact.eq (.bool true),
              Fact.eq (.bool true),
              Fact.prW geL,
              Fact.eq (.pointer (some ⟨w2.heap.size, 2, none⟩)),
              Fact.eq (.agg #[.string (strOf x.key), .slice x.ha x.av.length x.hc]),
              Fact.eq (.bool false),
              Fact.eq (.bool false),
              Fact.eq (.bool false)]
            [[], [], [(0, 34), (1, 35)], [(2, 36)], [(3, 37)], [(4, 38)], [(4, 38)], [(6, 40), (4, 38)], [(5, 39), (7, 41), (4, 38)], [(4, 38), (8, 42)], [(9, 43)]]
            [(0, 34), (1, 35), (2, 36), (3, 37), (4, 38), (5, 39), (6, 40), (7, 41), (8, 42), (9, 43), (10, 33)] (by kernel_rfl) (by kernel_rfl) ?_ ?_
          · refine ⟨?_, ?_, ?_, ?_, ?_, ?_, ?_, ?_, ?_, ?_, ?_, trivial⟩
            · intro w1 hx1; change wpList _ _ _ _ _ _; have m0 := cell_of_row _ _ 0 _ _ _ (block_later HST.out hx1); have m1 := cell_of_row _ _ 1 _ _ _ (block_later HST.out hx1); have m2 := cell_of_row _ _ 2 _ _ _ (block_later HST.out hx1); go_wp2_with fail; exact ⟨rfl, Ext.refl _, rfl, rfl⟩
            · intro w1 hx1; change wpList _ _ _ _ _ _; exact ob_move rfl rfl rfl rfl rfl
            · intro w1 hx1; rintro _ rfl; rintro _ rfl; change wpList _ _ _ _ _ _; go_wp2_with fail; refine (CG.out _ (HX3.out.trans hx1)).mono ?_; rintro e w2 ⟨rfl, hx2⟩; go_wp2_with fail; exact ⟨rfl, hx2, rfl, rfl⟩
            · intro w1 hx1; rintro _ rfl; change wpList _ _ _ _ _ _; go_wp2_with fail; exact ⟨rfl, Ext.refl _, rfl, rfl⟩
            · intro w1 hx1; rintro _ rfl; change wpList _ _ _ _ _ _; exact ob_move rfl rfl rfl rfl rfl
            · intro w1 hx1; rintro _ rfl; change wpList _ _ _ _ _ _; go_wp2_with fail; refine (ge_any _).mono ?_; rintro e w9 ⟨ga, gc, rfl, hh⟩; go_wp2_with fail; exact ⟨rfl, hh.out.2, rfl, hh.out.1⟩
            · intro w1 hx1; rintro _ rfl; change wpList _ _ _ _ _ _; go_wp2_with fail; exact ⟨rfl, Ext.refl _, rfl, rfl⟩
            · intro w1 hx1; rintro _ rfl; rintro _ rfl; change wpList _ _ _ _ _ _; have m2 := cell_of_row _ _ 2 _ _ _ (block_later HXB.out hx1); have m3 := cell_of_row _ _ 3 _ _ _ (block_later HXB.out hx1); go_wp2_with fail; exact ⟨rfl, Ext.refl _, rfl, rfl⟩
            · intro w1 hx1; intro v39 h39; rintro _ rfl; rintro _ rfl; change wpList _ _ _ _ _ _; go_wp2_with fail; refine (CM.out _ (HX3.out.trans hx1) _ h39 (Row.of_own (own_ext HXA.out hx1))).mono ?_; rintro e w2 ⟨rfl, hx2⟩; go_wp2_with fail; exact ⟨rfl, hx2, rfl, rfl⟩
            · intro w1 hx1; rintro _ rfl; rintro _ rfl; change wpList _ _ _ _ _ _; exact ob_pick rfl rfl rfl rfl rfl rfl
            · intro w1 hx1; rintro _ rfl; change wpList _ _ _ _ _ _; exact ob_assign rfl rfl rfl rfl rfl
          · intro w1 hx1; rintro _ rfl; rintro _ rfl; rintro _ rfl; rintro _ rfl; rintro _ rfl; intro v39 h39; rintro _ rfl; rintro _ rfl; rintro _ rfl; rintro _ rfl; rintro _ rfl; refine depsThen_nil ?_; dsimp only; simp only [Act.put, List.setIfInBounds_toArray, List.set_cons_zero, List.set_cons_succ]
            replace h39 : (Fact.prW geL).p v39 w1 := h39
            have HP1 := Lib.hid (HP3.out.later hx1)
            have HXB1 := Lib.hid (block_later HXB.out hx1)
            have HXA1 : Hid (AttrO w.heap.size _ x.h x.av) := Lib.hid (own_ext HXA.out hx1)
            have HX31 := Lib.hid (HX3.out.trans hx1)
            clear hx1 HP3 HXB HXA HST
            have HPN := HP1
            have HXN := HX31
            clear HP1 HX31 HXB1 HXA1
            have q0 := cell_of_row _ _ 0 _ _ _ HPN.out.st
            have q1 := cell_of_row _ _ 1 _ _ _ HPN.out.st
            have q2 := cell_of_row _ _ 2 _ _ _ HPN.out.st
            go_wp2_with (go_at_call 20; (with_reducible refine (CG.out _ HXN.out).mono ?_); rintro e wg ⟨rfl, hxg⟩; have HXM := Lib.hid (HXN.out.trans hxg); have HPM := Lib.hid (HPN.out.later hxg); clear HXN HPN; have HXN := HXM; have HPN := HPM; clear HXM HPM; have q0 := hxg.cell q0; have q1 := hxg.cell q1; have q2 := hxg.cell q2)
            go_roundw
            case rel => exact ⟨m + 1, L, I, _, _, by rw [Int.natCast_add]; rfl, by omega, by omega, HPN.out.skip (by unfold relB; rw [HGB.out, HMB.out]; rfl)⟩
            case measure => simp [intOf]; omega
      | true =>
        rw [hgb] at CG
        have HGB := Lib.hid hgb
        clear hgb
        refine wp_region_facts [Fact.eq (.agg #[gv, mv, .int .i64 D]),
            Fact.eq (.int .u64 m),
            Fact.eq (.bool true),
            Fact.eq (.bool false),
            Fact.eq (.bool false),
            Fact.eq undef,
            Fact.eq undef,
            Fact.eq undef,
            Fact.eq undef,
            Fact.eq (.bool false),
            Fact.eq (.bool false)]
          [[], [], [(0, 34), (1, 35)], [(2, 36)], [(3, 37)], [(4, 38)], [(4, 38)], [(6, 40), (4, 38)], [(5, 39), (7, 41), (4, 38)], [(4, 38), (8, 42)], [(9, 43)]]
          [(0, 34), (1, 35), (2, 36), (3, 37), (4, 38), (5, 39), (6, 40), (7, 41), (8, 42), (9, 43), (10, 33)] (by kernel_rfl) (by kernel_rfl) ?_ ?_
        · refine ⟨?_, ?_, ?_, ?_, ?_, ?_, ?_, ?_, ?_, ?_, ?_, trivial⟩
          · intro w1 hx1; change wpList _ _ _ _ _ _; have m0 := cell_of_row _ _ 0 _ _ _ (block_later HST.out hx1); have m1 := cell_of_row _ _ 1 _ _ _ (block_later HST.out hx1); have m2 := cell_of_row _ _ 2 _ _ _ (block_later HST.out hx1); go_wp2_with fail; exact ⟨rfl, Ext.refl _, rfl, rfl⟩
          · intro w1 hx1; change wpList _ _ _ _ _ _; exact ob_move rfl rfl rfl rfl rfl
          · intro w1 hx1; rintro _ rfl; rintro _ rfl; change wpList _ _ _ _ _ _; go_wp2_with fail; refine (CG.out _ (HX3.out.trans hx1)).mono ?_; rintro e w2 ⟨rfl, hx2⟩; go_wp2_with fail; exact ⟨rfl, hx2, rfl, rfl⟩
          · intro w1 hx1; rintro _ rfl; change wpList _ _ _ _ _ _; go_wp2_with fail; exact ⟨rfl, Ext.refl _, rfl, rfl⟩
          · intro w1 hx1; rintro _ rfl; change wpList _ _ _ _ _ _; exact ob_move rfl rfl rfl rfl rfl
          · intro w1 hx1; rintro _ rfl; change wpList _ _ _ _ _ _; exact ob_skip rfl rfl rfl rfl
          · intro w1 hx1; rintro _ rfl; change wpList _ _ _ _ _ _; exact ob_skip rfl rfl rfl rfl
          · intro w1 hx1; rintro _ rfl; rintro _ rfl; change wpList _ _ _ _ _ _; exact ob_skip rfl rfl rfl rfl
          · intro w1 hx1; rintro _ rfl; rintro _ rfl; rintro _ rfl; change wpList _ _ _ _ _ _; exact ob_skip rfl rfl rfl rfl
          · intro w1 hx1; rintro _ rfl; rintro _ rfl; change wpList _ _ _ _ _ _; exact ob_pick rfl rfl rfl rfl rfl rfl
          · intro w1 hx1; rintro _ rfl; change wpList _ _ _ _ _ _; exact ob_assign rfl rfl rfl rfl rfl
        · intro w1 hx1; rintro _ rfl; rintro _ rfl; rintro _ rfl; rintro _ rfl; rintro _ rfl; rintro _ rfl; rintro _ rfl; rintro _ rfl; rintro _ rfl; rintro _ rfl; rintro _ rfl; refine depsThen_nil ?_; dsimp only; simp only [Act.put, List.setIfInBounds_toArray, List.set_cons_zero, List.set_cons_succ]
          have HP1 := Lib.hid (HP3.out.later hx1)
          have HXB1 := Lib.hid (block_later HXB.out hx1)
          have HXA1 : Hid (AttrO w.heap.size _ x.h x.av) := Lib.hid (own_ext HXA.out hx1)
          have HX31 := Lib.hid (HX3.out.trans hx1)
          clear hx1 HP3 HXB HXA HST
          have HPN := HP1
          have HXN := HX31
          clear HP1 HX31 HXB1 HXA1
          have q0 := cell_of_row _ _ 0 _ _ _ HPN.out.st
          have q1 := cell_of_row _ _ 1 _ _ _ HPN.out.st
          have q2 := cell_of_row _ _ 2 _ _ _ HPN.out.st
          have b3 := cell_of_row _ _ 3 _ _ _ HPN.out.bx
          rcases snoc_cases (gpsOf L) with h0 | ⟨gs, ⟨f, g⟩, h0⟩
          · obtain ⟨ng, hng⟩ : ∃ ng, ng = (gpsOf L).length := ⟨_, rfl⟩
            rw [← hng] at b3
            have e0 : ng = 0 := by rw [hng, h0]; rfl
            have HNG := Lib.hid hng
            clear hng
            have HLG : Hid (ng ≤ 1000) := by have h1 := lenG L; have h2 := cov_len HPN.out.cov; have := HNG.out; show _ ≤ _; omega
            have g1 : decide ((ng : Int) > 0) = false := decide_eq_false (by omega)
            have g1' : decide (0 < ng) = false := decide_eq_false (by omega)
            clear e0 h0
            go_wp2_with (first | (go_at_call 20; (with_reducible refine (CG.out _ HXN.out).mono ?_); rintro e wg ⟨rfl, hxg⟩; have HXM := Lib.hid (HXN.out.trans hxg); have HPM := Lib.hid (HPN.out.later hxg); clear HXN HPN; have HXN := HXM; have HPN := HPM; clear HXM HPM; have q0 := hxg.cell q0; have q1 := hxg.cell q1; have q2 := hxg.cell q2; have b3 := hxg.cell b3) | (at_builtin; refine wpList_append_row 32 51 (.tmp 88) (.tmp 92) rfl w.heap.size _ 2 16 Tryz.underlying32 infoGap rfl (by decide) rfl _ ng ((gpsOf L).flatMap gpC) rfl (by have := own_ext HPN.out.gr (boxes1 _ (.cells #[.int .u64 m, .int .u64 m] 51)).1; rw [← HNG.out] at this; exact this) 1 (gpC (m, m)) (Row.of_own (World.ownsRow_lit (e := 51) (size := 2) _ (gpC (m, m)).toArray 1 (Nat.le_refl _) (by decide) rfl)) (gpC_one (m, m)) (by have := HLG.out; omega) (by have := HLG.out; unfold maxLen; omega) (HPN.out.x.trans (boxes1 _ _).1).size ?_; intro v9 w9 hown9 hg9; obtain ⟨va, vc, rfl, _, _⟩ := own_shape hown9; have HO9 := Lib.hid hown9; have HG9 := Lib.hid hg9; have kb := ((HPN.out.later (boxes1 _ (.cells #[.int .u64 m, .int .u64 m] 51)).1).kb3 (by rw [← HNG.out]; exact hg9)); have z3 := frozen_of_row _ _ 3 _ _ kb; have y3 := cell_of_row _ _ 3 _ _ _ kb; clear hown9 hg9 kb))
            go_roundw
            case rel =>
              have HP9 := HPN.out.later (boxes1 _ (.cells #[.int .u64 m, .int .u64 m] 51)).1
              have e9 : (gpsOf (L ++ [PD.ofG (m, m)])).length = ng + 1 := by rw [gps_app, gps_G, List.length_append, HNG.out]; rfl
              refine ⟨m + 1, L ++ [PD.ofG (m, m)], I, _, _, by rw [Int.natCast_add]; rfl, by omega, by omega, HP9.set3 (by rw [← HNG.out]; exact HG9.out) (cov_gap1 HP9.cov (by omega) HGB.out) ?_ ?_⟩
              · rw [its_app, its_G, List.append_nil]
              · rw [e9, gps_app, gps_G, List.flatMap_append]; simpa using HO9.out
            case measure => simp [intOf]; omega
          · obtain ⟨ng, hng⟩ : ∃ ng, ng = (gpsOf L).length := ⟨_, rfl⟩
            obtain ⟨k, hk⟩ : ∃ k, k = gs.length := ⟨_, rfl⟩
            rw [← hng] at b3
            have e0 : ng = k + 1 := by rw [hng, h0, List.length_append, hk]; rfl
            have g1 : decide ((ng : Int) > 0) = true := decide_eq_true (by omega)
            have g1' : decide (0 < ng) = true := decide_eq_true (by omega)
            have g2 : (ng : Int) - 1 = (k : Int) := by omega
            have g3 : k < ng := by omega
            have hown := HPN.out.gr
            rw [← hng] at hown
            obtain ⟨Bg, rfl, cur, hgb⟩ : ∃ Bg, hga = some ⟨Bg, 0, none⟩ ∧ ∃ cur, w1.heap[Bg]? = some (.cells cur 51 (0, 0)) := own_baseW hown (by omega)
            have hgc1 := Row.cellAt (Row.of_own hown) (j := k * 2 + 1) (u := .int .u64 g) (by rw [h0, hk]; exact gp_last gs f g) (by omega)
            rw [Nat.zero_add] at hgc1
            have zg := frozen_of_row _ _ (k * 2 + 1) _ _ hgb
            obtain ⟨m1, hm1'⟩ : ∃ m1 : Nat, m = m1 + 1 := ⟨m - 1, by omega⟩
            have g4 : (m : Int) - 1 = (m1 : Int) := by omega
            have HNG := Lib.hid hng
            have HM1 := Lib.hid hm1'
            have HK := Lib.hid hk
            have H0 := Lib.hid h0
            have HB := Lib.hid hgb
            have HE0 := Lib.hid e0
            clear hng hm1' hk h0 e0 hgb hown
            have HLG : Hid (ng ≤ 1000) := by have h1 := lenG L; have h2 := cov_len HPN.out.cov; have := HNG.out; show _ ≤ _; omega
            have hk1000 : k ≤ 1000 := by have := HLG.out; have := HE0.out; omega
            by_cases hgm : g = m1
            · subst hgm
              have g5 : ((g : Int) == (g : Int)) = true := by simp
              have g5' : (g == g) = true := by simp
              go_wp2_with (go_at_call 20; (with_reducible refine (CG.out _ HXN.out).mono ?_); rintro e wg ⟨rfl, hxg⟩; have HXM := Lib.hid (HXN.out.trans hxg); have HPM := Lib.hid (HPN.out.later hxg); clear HXN HPN; have HXN := HXM; have HPN := HPM; clear HXM HPM; have q0 := hxg.cell q0; have q1 := hxg.cell q1; have q2 := hxg.cell q2; have b3 := hxg.cell b3; have hgc1 := hxg.cell hgc1; have HBM := Lib.hid (block_later HB.out hxg); clear HB; have HB := HBM; clear HBM; have zg := frozen_of_row _ _ (k * 2 + 1) _ _ HB.out)
              go_roundw
              case rel =>
                obtain ⟨L2, hL2, hL, hgs⟩ := cov_more HPN.out.cov (by omega) HGB.out (f := f) (gs := gs) (by rw [H0.out, HM1.out]; rfl)
                have hown := HPN.out.gr
                obtain ⟨s1, s2⟩ := own_set1 hown (j := k * 2 + 1) (by rw [H0.out, HK.out]; exact gp_lt gs f g) (.int .u64 m)
                have eg : gpsOf (L2 ++ [PD.ofG (f, m)]) = gs ++ [(f, m)] := by rw [gps_app, hgs, gps_G]
                have e9 : (gpsOf (L2 ++ [PD.ofG (f, m)])).length = (gpsOf L).length := by rw [eg, H0.out, List.length_append, List.length_append]; rfl
                refine ⟨m + 1, L2 ++ [PD.ofG (f, m)], I, .slice hia I.length hic, .slice (some ⟨Bg, 0, none⟩) ng hgc, by rw [Int.natCast_add]; rfl, by omega, by omega, ?_⟩
                have := HPN.out.setg s2 hL2 (by rw [hL, its_app, its_app, its_G, its_G]) (by rw [e9, eg, ← gp_set gs f g m, ← H0.out, ← HK.out]; exact s1)
                rw [← HNG.out] at this
                exact this
              case measure => simp [intOf]; omega
            · have g5 : ((g : Int) == (m1 : Int)) = false := by simp; omega
              have g5' : (g == m1) = false := by simp; omega
              clear hgm
              go_wp2_with (first | (go_at_call 20; (with_reducible refine (CG.out _ HXN.out).mono ?_); rintro e wg ⟨rfl, hxg⟩; have HXM := Lib.hid (HXN.out.trans hxg); have HPM := Lib.hid (HPN.out.later hxg); clear HXN HPN; have HXN := HXM; have HPN := HPM; clear HXM HPM; have q0 := hxg.cell q0; have q1 := hxg.cell q1; have q2 := hxg.cell q2; have b3 := hxg.cell b3; have hgc1 := hxg.cell hgc1; have HBM := Lib.hid (block_later HB.out hxg); clear HB; have HB := HBM; clear HBM; have zg := frozen_of_row _ _ (k * 2 + 1) _ _ HB.out) | (at_builtin; refine wpList_append_row 32 51 (.tmp 88) (.tmp 92) rfl w.heap.size _ 2 16 Tryz.underlying32 infoGap rfl (by decide) rfl _ ng ((gpsOf L).flatMap gpC) rfl (by have := own_ext HPN.out.gr (boxes1 _ (.cells #[.int .u64 m, .int .u64 m] 51)).1; rw [← HNG.out] at this; exact this) 1 (gpC (m, m)) (Row.of_own (World.ownsRow_lit (e := 51) (size := 2) _ (gpC (m, m)).toArray 1 (Nat.le_refl _) (by decide) rfl)) (gpC_one (m, m)) (by have := HLG.out; omega) (by have := HLG.out; unfold maxLen; omega) (HPN.out.x.trans (boxes1 _ _).1).size ?_; intro v9 w9 hown9 hg9; obtain ⟨va, vc, rfl, _, _⟩ := own_shape hown9; have HO9 := Lib.hid hown9; have HG9 := Lib.hid hg9; have kb := ((HPN.out.later (boxes1 _ (.cells #[.int .u64 m, .int .u64 m] 51)).1).kb3 (by rw [← HNG.out]; exact hg9)); have z3 := frozen_of_row _ _ 3 _ _ kb; have y3 := cell_of_row _ _ 3 _ _ _ kb; clear hown9 hg9 kb))
              go_roundw
              case rel =>
                have HP9 := HPN.out.later (boxes1 _ (.cells #[.int .u64 m, .int .u64 m] 51)).1
                have e9 : (gpsOf (L ++ [PD.ofG (m, m)])).length = ng + 1 := by rw [gps_app, gps_G, List.length_append, HNG.out]; rfl
                refine ⟨m + 1, L ++ [PD.ofG (m, m)], I, _, _, by rw [Int.natCast_add]; rfl, by omega, by omega, HP9.set3 (by rw [← HNG.out]; exact HG9.out) (cov_gap1 HP9.cov (by omega) HGB.out) ?_ ?_⟩
                · rw [its_app, its_G, List.append_nil]
                · rw [e9, gps_app, gps_G, List.flatMap_append]; simpa using HO9.out
              case measure => simp [intOf]; omega
    · have d1 : decide ((m : Int) < (en : Int)) = false := decide_eq_false (by omega)
      have d1' : decide (m < en) = false := decide_eq_false h
      have hme : m = en := by omega
      subst hme
      have hD1 : D < 1000 := by omega
      obtain ⟨hx4, _⟩ : Ext w wr ∧ True := ⟨hP.out.x, trivial⟩
      have z4 := frozen_of_row _ _ 4 _ _ hP.out.bx
      have y0 := cell_of_row _ _ 0 _ _ _ hP.out.bx
      have y2 := cell_of_row _ _ 2 _ _ _ hP.out.bx
      have y3 := cell_of_row _ _ 3 _ _ _ hP.out.bx
      have y4 := cell_of_row _ _ 4 _ _ _ hP.out.bx
      have HQ : ∀ (b : Bool), Hid (((wr.setCell ⟨w.heap.size + 1 + 1, 4, none⟩ (.bool b)).heap[w.heap.size + 1]? = some (.cells #[.int .u64 0, .int .u64 0, .slice none 0 0, .slice none 0 0, .bool false] 34 (0, 0))) ∧ ((wr.setCell ⟨w.heap.size + 1 + 1, 4, none⟩ (.bool b)).heap[w.heap.size + 1 + 1]? = some (.cells #[.int .u64 frm, .int .u64 m, .slice hia I.length hic, .slice hga (gpsOf L).length hgc, .bool b] 34 (0, 0)))) := fun b =>
        ⟨(setCell_block_far wr ⟨w.heap.size + 1 + 1, 4, none⟩ (.bool b) _ (by show w.heap.size + 1 ≠ w.heap.size + 1 + 1; omega)).trans hP.out.rs, by
          have := setCell_blockJ 4 (.bool b) hP.out.bx
          simpa only [List.setIfInBounds_toArray, List.set_cons_zero, List.set_cons_succ] using this⟩
      have HEND : ∀ (b : Bool), Hid (PgO w (((wr.setCell ⟨w.heap.size + 1 + 1, 4, none⟩ (.bool b)).setRow (w.heap.size + 1) #[.int .u64 frm, .int .u64 m, .slice hia I.length hic, .slice hga (gpsOf L).length hgc, .bool b])) G M frm m L I (.slice hia I.length hic) (.slice hga (gpsOf L).length hgc)) := fun b => by
        have k1 : ∀ {v : Value} {xs : List Value} {n size : Nat} {e : TypeId}, wr.ownsRow w.heap.size e size v n xs → e ≠ 34 → ((wr.setCell ⟨w.heap.size + 1 + 1, 4, none⟩ (.bool b)).setRow (w.heap.size + 1) #[.int .u64 frm, .int .u64 m, .slice hia I.length hic, .slice hga (gpsOf L).length hgc, .bool b]).ownsRow w.heap.size e size v n xs := fun ho he => own_rowJ (own_setJ ho hP.out.bx he _ _) (HQ b).out.1 he _
        exact ⟨hP.out.cov, hP.out.it, ⟨Row.of_own (k1 hP.out.ir (by decide)), fun y hy => Row.of_own (k1 (hP.out.hat y hy) (by decide))⟩, Row.of_own (k1 hP.out.gr (by decide)), (hP.out.x.setCell (p := ⟨w.heap.size + 1 + 1, 4, none⟩) (by show w.heap.size ≤ w.heap.size + 1 + 1; omega) _).setRow (Nat.le_succ _) _⟩
      by_cases hd : D < m
      · have d2 : decide ((m : Int) > (D : Int)) = true := decide_eq_true (by omega)
        have d2' : decide (D < m) = true := decide_eq_true hd
        clear hd hP
        go_wp2_with (refine wpList_store_whole 34 (.tmp 6) (.tmp 102) rfl rfl (w.heap.size + 1) rfl #[.int .u64 frm, .int .u64 m, .slice hia I.length hic, .slice hga (gpsOf L).length hgc, .bool true] rfl _ 34 (HQ true).out.1 rfl sizePageW (by simp [Value.oneCell']) ?_)
        have hr := setRow_heap _ (w.heap.size + 1) _ #[.int .u64 frm, .int .u64 m, .slice hia I.length hic, .slice hga (gpsOf L).length hgc, .bool true] 34 (0, 0) (HQ true).out.1
        have g0 := cell_of_row _ _ 0 _ _ _ hr
        have g1 := cell_of_row _ _ 1 _ _ _ hr
        have g2 := cell_of_row _ _ 2 _ _ _ hr
        have g3 := cell_of_row _ _ 3 _ _ _ hr
        have g4 := cell_of_row _ _ 4 _ _ _ hr
        exact bodyPost_ret (v := .agg #[.int .u64 frm, .int .u64 m, .slice hia I.length hic, .slice hga (gpsOf L).length hgc, .bool true]) (by simp [results, Tryz.results19, go_sem, g0, g1, g2, g3, g4]) rfl ⟨L, I, _, _, by rw [d2'], HEND true⟩
      · have d2 : decide ((m : Int) > (D : Int)) = false := decide_eq_false (by omega)
        have d2' : decide (D < m) = false := decide_eq_false hd
        clear hd hP
        go_wp2_with (refine wpList_store_whole 34 (.tmp 6) (.tmp 102) rfl rfl (w.heap.size + 1) rfl #[.int .u64 frm, .int .u64 m, .slice hia I.length hic, .slice hga (gpsOf L).length hgc, .bool false] rfl _ 34 (HQ false).out.1 rfl sizePageW (by simp [Value.oneCell']) ?_)
        have hr := setRow_heap _ (w.heap.size + 1) _ #[.int .u64 frm, .int .u64 m, .slice hia I.length hic, .slice hga (gpsOf L).length hgc, .bool false] 34 (0, 0) (HQ false).out.1
        have g0 := cell_of_row _ _ 0 _ _ _ hr
        have g1 := cell_of_row _ _ 1 _ _ _ hr
        have g2 := cell_of_row _ _ 2 _ _ _ hr
        have g3 := cell_of_row _ _ 3 _ _ _ hr
        have g4 := cell_of_row _ _ 4 _ _ _ hr
        exact bodyPost_ret (v := .agg #[.int .u64 frm, .int .u64 m, .slice hia I.length hic, .slice hga (gpsOf L).length hgc, .bool false]) (by simp [results, Tryz.results19, go_sem, g0, g1, g2, g3, g4]) rfl ⟨L, I, _, _, by rw [d2'], HEND false⟩
end Go.Proofs.YtaklnpjpndkccaaGreat

namespace Go.Proofs.YtaklnpjpndkccaaGreat
def mvC (x : Int × Nat × Nat) : List Value := [.int .u8 x.1, .int .u8 x.2.1, .int .u8 x.2.2]
theorem mvC_len (x : Int × Nat × Nat) : (mvC x).length = 3 := rfl
end Go.Proofs.YtaklnpjpndkccaaGreat

namespace Go.Proofs.YtaklnpjpndkccaaGreat
open Go.RowKit Go.Sort

/-- A predicate from a block on. -/
def PredB (b : Nat) (w : World) (pv : Value) (p : List C) : Prop := ∃ us : List CS, us.map CS.c = p ∧ w.ownsRow b 94 7 pv us.length (us.flatMap csC) ∧ ∀ x ∈ us, SetO b w x
theorem PredB.far {b k i : Nat} {w : World} {pv u : Value} {p : List C} (h : PredB b w pv p) (hk : k < b) : PredB b (w.setCell ⟨k, i, none⟩ u) pv p := by
  obtain ⟨us, e, h1, h2⟩ := h
  have hh : ∀ {v : Value} {xs : List Value} {n size : Nat} {e : TypeId}, w.ownsRow b e size v n xs → (w.setCell ⟨k, i, none⟩ u).ownsRow b e size v n xs := fun ho => own_keep ho (grown_setJ w k i u) fun q hq e2 => by cases e2; have := own_base ho k hq; omega
  exact ⟨us, e, hh h1, fun x hx => hh (h2 x hx)⟩
set_option maxRecDepth 100000 in
set_option maxHeartbeats 4000000 in
theorem new_yesB (w : World) (v : Value) (p : List C) (hp : PredR w v p) (hm : mayP p = true) (next : Nat) (h1 : 1 ≤ next) (h2 : next ≤ 1099511627777) :
    Calls Tryz.prog 7 #[v, .int .u64 next] w fun e w' => ∃ bs : Nat, e = .returned (.tuple #[.pointer (some ⟨bs, 0, none⟩), .int .i64 0]) ∧ Hid (∃ w0 pv, SplR w0 w' bs pv (normP p) next 0 0 ∧ PredB w.heap.size w0 pv (normP p) ∧ Ext w w0 ∧ Ext w w') := by
  have CN := Lib.hid (normal_yes w v p hp hm)
  clear hp hm
  have d1 : decide ((next : Int) < 1) = false := decide_eq_false (by omega)
  have d2 : decide ((1099511627777 : Int) < (next : Int)) = false := decide_eq_false (by omega)
  clear h1 h2
  go_enter Tryz.func7, Tryz.ntmps7
  go_wp2_with (go_at_call 33; refine CN.out.mono ?_; rintro e w5 ⟨v5, us, rfl, hus, hown, hset, hx5⟩; have HX5 := Lib.hid hx5; have HPB : Hid (PredB w.heap.size w5 v5 (normP p)) := ⟨us, hus, hown, hset⟩; have HPR : Hid (PredR w5 v5 (normP p)) := (by show PredR _ _ _; rw [← hus]; exact PredR.mk us (Row.of_own hown) fun x hm => (hset x hm).set); obtain ⟨a5, c5, rfl, _, _⟩ := own_shape hown; clear hus hown hset hx5)
  go_ret2
  refine ⟨_, rfl, w5, _, ⟨(boxes1 w5 _).2, Nat.le_refl _, HPR.out, (boxes1 w5 _).1⟩, HPB.out, HX5.out, HX5.out.trans (boxes1 w5 _).1⟩
theorem PredB.pr {b : Nat} {w : World} {pv : Value} {p : List C} (h : PredB b w pv p) : PredR w pv p := by
  obtain ⟨us, rfl, h1, h2⟩ := h
  exact PredR.mk us (Row.of_own h1) fun x hm => (h2 x hm).set
theorem setCell_both {w0 W : World} {b i : Nat} {u : Value} (h : Ext w0 W) (hb : b < w0.heap.size) : Ext (w0.setCell ⟨b, i, none⟩ u) (W.setCell ⟨b, i, none⟩ u) := by
  have e1 := grown_setJ W b i u
  have e2 := grown_setJ w0 b i u
  refine ⟨e1.os.trans (h.os.trans e2.os.symm), e1.tape.trans (h.tape.trans e2.tape.symm), e1.output.trans (h.output.trans e2.output.symm), by rw [World.size_setCell, World.size_setCell]; exact h.size, fun k hk => ?_⟩
  rw [World.size_setCell] at hk
  by_cases hkb : k = b
  · subst hkb
    unfold World.setCell
    simp only [Array.getElem?_modify, if_true, h.block k hk]
  · rw [setCell_block_far W _ _ _ hkb, setCell_block_far w0 _ _ _ hkb]
    exact h.block k hk
/-- What SpliceWhole's walk keeps. -/
structure WhW (w W : World) (sb bs base nb : Nat) (gv mv : Value) (G M : List Bool) (first D Db next : Nat) (st cnt : Int) (count asked : Nat) (tv : Value) (T : List DM) : Prop where
  spl : Spl G M first D next st cnt count asked (T.map DM.pd)
  box : W.heap[sb]? = some (.cells #[gv, mv, .int .i64 Db] 58 (0, 0))
  s : ∃ w0 pv, SplR w0 W bs pv geL next st cnt ∧ PredB base w0 pv geL ∧ base ≤ nb ∧ w0.heap.size = nb
  sb1 : w.heap.size ≤ sb
  sb2 : sb < base
  x : Ext w W
  row : W.ownsRow nb 53 6 tv T.length (T.flatMap dmC)
section
variable {w W W' : World} {sb bs base nb : Nat} {gv mv : Value} {G M : List Bool} {first D Db next : Nat} {st cnt : Int} {count asked : Nat} {tv : Value} {T : List DM}
theorem WhW.later (h : WhW w W sb bs base nb gv mv G M first D Db next st cnt count asked tv T) (k : Ext W W') : WhW w W' sb bs base nb gv mv G M first D Db next st cnt count asked tv T := by
  obtain ⟨w0, pv, h1, h2, h3⟩ := h.s
  exact ⟨h.spl, block_later h.box k, ⟨w0, pv, h1.later k, h2, h3⟩, h.sb1, h.sb2, h.x.trans k, own_ext h.row k⟩
theorem WhW.ne (h : WhW w W sb bs base nb gv mv G M first D Db next st cnt count asked tv T) : sb ≠ bs := by
  obtain ⟨w0, pv, h1, h2, h3⟩ := h.s
  have := h1.old
  have := h3.1
  have := h3.2
  have := h.sb2
  omega
theorem WhW.bsw (h : WhW w W sb bs base nb gv mv G M first D Db next st cnt count asked tv T) : w.heap.size ≤ bs := by
  obtain ⟨w0, pv, h1, h2, h3⟩ := h.s
  have := h1.old
  have := h3.1
  have := h3.2
  have := h.sb2
  have := h.sb1
  omega
theorem WhW.len (h : WhW w W sb bs base nb gv mv G M first D Db next st cnt count asked tv T) : T.length + first ≤ next ∧ next ≤ max first (D + 1) := by
  have := cov_len h.spl.cov
  rw [List.length_map] at this
  exact ⟨this, h.spl.hi⟩
/-- The splicer turned; nothing else did. -/
theorem WhW.turn (h : WhW w W sb bs base nb gv mv G M first D Db next st cnt count asked tv T) (hg : W.grownBy W' (some bs)) {next' : Nat} {st' cnt' : Int} {count' asked' : Nat} {w0 : World} {pv : Value} (hS : SplR w0 W' bs pv geL next' st' cnt') (hP : PredB base w0 pv geL) (hb : base ≤ nb ∧ w0.heap.size = nb)
    (hspl : Spl G M first D next' st' cnt' count' asked' (T.map DM.pd)) : WhW w W' sb bs base nb gv mv G M first D Db next' st' cnt' count' asked' tv T := by
  obtain ⟨_, _, h1, _, _⟩ := h.s
  exact ⟨hspl, (hg.block sb (Array.getElem?_eq_some_iff.1 h.box).1 (by intro e; cases e; exact h.ne rfl)).trans h.box, ⟨w0, pv, hS, hP, hb⟩, h.sb1, h.sb2, ext_but h.x hg h.bsw, own_keep h.row hg fun k hk e => own_ne h.row h1.sp (by decide) (hk.trans e.symm)⟩
theorem wh_lit (h : WhW w W sb bs base nb gv mv G M first D Db next st cnt count asked tv T) (b : Bool) :
    Calls Tryz.prog 10 #[.pointer (some ⟨bs, 0, none⟩), .bool b] W fun e w' => e = .returned (.tuple #[]) ∧ Hid (WhW w w' sb bs base nb gv mv G M first D Db next (if b then 1 else 0) cnt count asked tv T) := by
  obtain ⟨w0, pv, h1, h2, h3⟩ := h.s
  refine (lit_spl h1 b).mono ?_
  rintro e w' ⟨rfl, hk⟩
  exact ⟨rfl, h.turn hk.out.2 hk.out.1 h2 h3 (h.spl.lit b)⟩
theorem wh_ask (h : WhW w W sb bs base nb gv mv G M first D Db next 1 cnt count asked tv T) {c1 : Nat} (hc : c1 = count + 1) :
    Calls Tryz.prog 11 #[.pointer (some ⟨bs, 0, none⟩), .int .u64 c1] W fun e w' => e = .returned (.tuple #[.int .u64 next, .bool true]) ∧ Hid (WhW w w' sb bs base nb gv mv G M first D Db next 2 (c1 : Nat) c1 next tv T ∧ W.grownBy w' (some bs)) := by
  subst hc
  obtain ⟨w0, pv, h1, h2, h3⟩ := h.s
  refine (ask_spl h1 _).mono ?_
  rintro e w' ⟨rfl, hk⟩
  exact ⟨rfl, h.turn hk.out.2 hk.out.1 h2 h3 h.spl.asks, hk.out.2⟩
theorem wh_askno (h : WhW w W sb bs base nb gv mv G M first D Db next st cnt count asked tv T) (hs : st ≠ 1) (c1 : Nat) :
    Calls Tryz.prog 11 #[.pointer (some ⟨bs, 0, none⟩), .int .u64 c1] W fun e w' => e = .returned (.tuple #[.int .u64 0, .bool false]) ∧ w' = W := by
  obtain ⟨w0, pv, h1, h2, h3⟩ := h.s
  exact sask_no W bs pv next st cnt h1.sp hs _
theorem WhW.askno (h : WhW w W sb bs base nb gv mv G M first D Db next st cnt count asked tv T) {c1 : Nat} (hc : c1 = count + 1) : WhW w W sb bs base nb gv mv G M first D Db next st cnt c1 asked tv T := by
  subst hc
  exact ⟨h.spl.asksno, h.box, h.s, h.sb1, h.sb2, h.x, h.row⟩
/-- What a call told, ahead of its append. -/
structure WhT (w W : World) (sb bs base nb : Nat) (gv mv : Value) (G M : List Bool) (first D Db next : Nat) (st cnt : Int) (count asked : Nat) (tv : Value) (T : List DM) (ov : Value) (O : List DM) : Prop where
  spl : Spl G M first D next st cnt count asked ((T ++ O).map DM.pd)
  box : W.heap[sb]? = some (.cells #[gv, mv, .int .i64 Db] 58 (0, 0))
  s : ∃ w0 pv, SplR w0 W bs pv geL next st cnt ∧ PredB base w0 pv geL ∧ base ≤ nb ∧ w0.heap.size = nb
  sb1 : w.heap.size ≤ sb
  sb2 : sb < base
  x : Ext w W
  row : W.ownsRow nb 53 6 tv T.length (T.flatMap dmC)
  o : Row W 6 ov O.length (O.flatMap dmC)
theorem WhW.tell (h : WhW w W sb bs base nb gv mv G M first D Db next st cnt count asked tv T) (hg : W.grownBy W' (some bs)) {next' : Nat} {st' cnt' : Int} {count' asked' : Nat} {w0 : World} {pv : Value} (hS : SplR w0 W' bs pv geL next' st' cnt') (hP : PredB base w0 pv geL) (hb : base ≤ nb ∧ w0.heap.size = nb) {ov : Value} {O : List DM}
    (ho : Row W' 6 ov O.length (O.flatMap dmC)) {D' : Nat} (hspl : Spl G M first D' next' st' cnt' count' asked' ((T ++ O).map DM.pd)) : WhT w W' sb bs base nb gv mv G M first D' Db next' st' cnt' count' asked' tv T ov O := by
  obtain ⟨_, _, h1, _, _⟩ := h.s
  exact ⟨hspl, (hg.block sb (Array.getElem?_eq_some_iff.1 h.box).1 (by intro e; cases e; exact h.ne rfl)).trans h.box, ⟨w0, pv, hS, hP, hb⟩, h.sb1, h.sb2, ext_but h.x hg h.bsw, own_keep h.row hg fun k hk e => own_ne h.row h1.sp (by decide) (hk.trans e.symm), ho⟩
theorem WhT.len {ov : Value} {O : List DM} (h : WhT w W sb bs base nb gv mv G M first D Db next st cnt count asked tv T ov O) : T.length + O.length + first ≤ next ∧ next ≤ max first (D + 1) := by
  have := cov_len h.spl.cov
  rw [List.length_map, List.length_append] at this
  exact ⟨this, h.spl.hi⟩
/-- .. and behind it. -/
theorem WhT.done {ov : Value} {O : List DM} (h : WhT w W sb bs base nb gv mv G M first D Db next st cnt count asked tv T ov O) {v' : Value} (ho : W'.ownsRow nb 53 6 v' (T.length + O.length) (T.flatMap dmC ++ O.flatMap dmC)) (hg : W.grownBy W' tv.ownBlock) :
    WhW w W' sb bs base nb gv mv G M first D Db next st cnt count asked v' (T ++ O) := by
  obtain ⟨w0, pv, h1, h2, h3⟩ := h.s
  have hbs := h1.old
  refine ⟨h.spl, (hg.block sb (Array.getElem?_eq_some_iff.1 h.box).1 (fun e => own_ne h.row h.box (by decide) e.symm)).trans h.box, ⟨w0, pv, ⟨?_, h1.old, h1.pr, ?_⟩, h2, h3⟩, h.sb1, h.sb2, h.x.grown_none hg fun k hk => by have := own_base h.row k hk; have := h.sb1; have := h.sb2; have := h3.1; omega, by rw [List.length_append, List.flatMap_append]; exact ho⟩
  · exact (hg.block bs (Array.getElem?_eq_some_iff.1 h1.sp).1 (fun e => own_ne h.row h1.sp (by decide) e.symm)).trans h1.sp
  · exact h1.hx.grown_none hg fun k hk => by rw [h3.2]; exact own_base h.row k hk
theorem WhW.grow (h : WhW w W sb bs base nb gv mv G M first D Db next st cnt count asked tv T) : nb ≤ W.heap.size := by
  obtain ⟨w0, pv, h1, _, h3⟩ := h.s
  have := h1.hx.size
  omega
theorem WhT.grow {ov : Value} {O : List DM} (h : WhT w W sb bs base nb gv mv G M first D Db next st cnt count asked tv T ov O) : nb ≤ W.heap.size := by
  obtain ⟨w0, pv, h1, _, h3⟩ := h.s
  have := h1.hx.size
  omega
theorem WhW.setD (h : WhW w W sb bs base nb gv mv G M first D Db next st cnt count asked tv T) (D2 : Nat) : WhW w (W.setCell ⟨sb, 2, none⟩ (.int .i64 D2)) sb bs base nb gv mv G M first D D2 next st cnt count asked tv T := by
  obtain ⟨w0, pv, h1, h2, h3⟩ := h.s
  have hb := h.sb2
  refine ⟨h.spl, ?_, ⟨w0.setCell ⟨sb, 2, none⟩ (.int .i64 D2), pv, ⟨?_, ?_, (h2.far hb).pr, setCell_both h1.hx (by omega)⟩, h2.far hb, h3.1, by rw [World.size_setCell]; exact h3.2⟩, h.sb1, h.sb2, h.x.setCell (p := ⟨sb, 2, none⟩) h.sb1 _, own_setJ h.row h.box (by decide) _ _⟩
  · have := setCell_blockJ 2 (.int .i64 D2) h.box
    simpa only [List.setIfInBounds_toArray, List.set_cons_zero, List.set_cons_succ] using this
  · exact (setCell_block_far W ⟨sb, 2, none⟩ _ bs (fun e => h.ne e.symm)).trans h1.sp
  · rw [World.size_setCell]; exact h1.old
theorem wh_come {D1 : Nat} (hd : D1 = D + 1) (h : WhW w W sb bs base nb gv mv G M first D D1 next st cnt count asked tv T) (hD : D1 ≤ 900) (x : IM) (hx : x.pi = itW M D1) {b0 : Nat} (ha : AttrO b0 W x.h x.av) (room : Int) :
    Calls Tryz.prog 14 #[.pointer (some ⟨bs, 0, none⟩), .agg #[.int .u64 x.n, .int .u64 x.t, .string (strOf x.key), .slice x.ha x.av.length x.hc], .int .i64 room] W
      fun e w' => ∃ a n c, e = .returned (.slice a n c) ∧ Hid (∃ O next' st', n = List.length O ∧ WhT w w' sb bs base nb gv mv G M first D1 D1 next' st' cnt count asked tv T (.slice a n c) O) := by
  subst hd
  obtain ⟨w0, pv, h1, h2, h3⟩ := h.s
  have hav : x.av.length * 56 ≤ 140737488355328 := by
    have : x.av = (itW M (D + 1)).av := congrArg PI.av hx
    rw [this]
    show 1 * 56 ≤ _
    decide
  refine (comes_any w0 W bs pv geL next st cnt h1 x (Row.of_own ha) hav room).mono ?_
  rintro e w' ⟨v, rfl, hP⟩
  have hT : TellO _ _ _ _ _ _ _ _ _ := hP.out
  rw [hx] at hT
  have k := h.spl.come (by omega) room
  have hS := tell_spl h1 hT
  obtain ⟨O, hO1, hO2, hO3, hO4, hO5⟩ := hT
  obtain ⟨a, c, rfl, _, _⟩ := own_shape hO2
  exact ⟨a, _, c, rfl, O, _, _, rfl, h.tell hO5 hS h2 h3 (Row.of_own hO2) (count' := count) (asked' := asked) (D' := D + 1) (by rw [List.map_append, hO1]; exact k)⟩
theorem lenI : ∀ (L : List PD), (itsOf L).length ≤ L.length
  | [] => Nat.le_refl _
  | d :: r => by have := lenI r; rw [itsOf]; split <;> simp only [List.length_cons] <;> omega
theorem _root_.Go.Proofs.YtaklnpjpndkccaaGreat.StS.self_eq {α : Type} {kf : α → Int} {X Z : List α} (h : StS kf X Z) (hX : X.Pairwise fun a b => kf a ≤ kf b) : Z = X := sts_unique h.2.1 hX h.2.2
theorem gps_kf {L : List PD} {a b : Nat} (h : CovW G M a L b) : (gpsOf L).Pairwise fun x y => kfGap x ≤ kfGap y := (gps_rise h).imp fun {x y} h => by show ((x.1 : Nat) : Int) ≤ (y.1 : Nat); omega
theorem its_kf {L : List PD} {a b : Nat} (h : CovW G M a L b) {I : List IM} (hI : I.map IM.pi = itsOf L) : I.Pairwise fun x y => kfItem x ≤ kfItem y := by
  have h1 := its_rise h
  rw [← hI, List.pairwise_map] at h1
  exact h1.imp fun {x y} h => by have h : x.n < y.n := h; show ((x.n : Nat) : Int) ≤ (y.n : Nat); omega
theorem wh_page (h : WhW w W sb bs base nb gv mv G M first D Db next st cnt count asked tv T) (hD : D ≤ 900) (hf : first ≤ 900) (scan : Nat) (hs : scan ≤ 8) {L : List PD} {I : List IM} {hi hg : Value} (w1 : World) (hP : PgO w1 W G M asked (enW D asked scan) L I hi hg) (room : Int) :
    Calls Tryz.prog 13 #[.pointer (some ⟨bs, 0, none⟩), .int .u64 count, .agg #[.int .u64 asked, .int .u64 (enW D asked scan : Nat), hi, hg, .bool (decide (D < enW D asked scan))], .int .i64 room] W
      fun e w' => ∃ a n c, e = .returned (.slice a n c) ∧ Hid (∃ O next' st', n = List.length O ∧ WhT w w' sb bs base nb gv mv G M first D Db next' st' cnt count asked tv T (.slice a n c) O ∧
        ((st = 2 ∧ cnt = (count : Int)) → asked = next ∧ next' = (pageP geL room (enW D asked scan) (decide (D < enW D asked scan)) L next).2.1 ∧ st' = (pageP geL room (enW D asked scan) (decide (D < enW D asked scan)) L next).2.2 ∧ CovW G M asked L (enW D asked scan))) := by
  obtain ⟨w0, pv, h1, h2, h3⟩ := h.s
  by_cases hc : st = 2 ∧ cnt = (count : Int)
  · obtain ⟨rfl, rfl⟩ := hc
    have hlL := cov_len hP.cov
    have hlen : enW D asked scan ≤ asked + 8 := by unfold enW; omega
    have hli : I.length ≤ L.length := by
      have : I.length = (itsOf L).length := by rw [← hP.it, List.length_map]
      rw [this]; exact lenI L
    have hlg := lenG L
    have hav : ∀ x ∈ I, x.av.length * 56 ≤ 140737488355328 := fun x hx => by
      have : x.pi ∈ itsOf L := by rw [← hP.it]; exact List.mem_map_of_mem hx
      obtain ⟨d, hd, hn, e⟩ := its_mem this
      have := El_item (cov_num hP.cov d hd).2.2 hn
      have e2 : x.av = d.av := congrArg PI.av e
      rw [e2, this.2.2.2.1]
      show 1 * 56 ≤ _
      decide
    refine (page_yes w0 W bs pv geL next count h1 asked (enW D asked scan) hi hg (decide (D < enW D asked scan)) room I (gpsOf L) hP.ir hP.gr (by omega) (by omega) hav).mono ?_
    rintro e w' ⟨v, rfl, hO⟩
    obtain ⟨Zg, Zi, hZg, hZi, hT⟩ := hO.out
    have eg : Zg = gpsOf L := (hZg.self_eq (gps_kf hP.cov))
    have ei : Zi.map IM.pi = itsOf L := by
      have hk : I.Pairwise fun a b => kfItem a ≤ kfItem b := its_kf hP.cov hP.it
      rw [hZi.self_eq hk, hP.it]
    rw [eg, ei, rowD_cov hP.cov] at hT
    obtain ⟨k1, k2⟩ := h.spl.page (by omega) (by omega) scan room hP.cov
    have hS := tell_spl h1 hT
    obtain ⟨O, hO1, hO2, hO3, hO4, hO5⟩ := hT
    obtain ⟨a, c, rfl, _, _⟩ := own_shape hO2
    refine ⟨a, _, c, rfl, O, _, _, rfl, h.tell hO5 hS h2 h3 (Row.of_own hO2) (by rw [List.map_append, hO1]; exact k2), fun _ => ⟨k1, rfl, rfl, hP.cov⟩⟩
  · refine (page_no W bs pv next st cnt h1.sp count hc asked (enW D asked scan) hi hg _ room).mono ?_
    rintro e w' ⟨rfl, hx⟩
    refine ⟨_, _, _, rfl, [], next, st, rfl, h.tell (grown_extJ hx) (h1.later hx) h2 h3 (Row.nil _ _) (by rw [List.append_nil]; exact h.spl), fun e => absurd e hc⟩
end
end Go.Proofs.YtaklnpjpndkccaaGreat

namespace Go.Proofs.YtaklnpjpndkccaaGreat
open Go.RowKit Go.ChangeShapes Go.WideShapes Go.Deep

section
variable {H : Type} {enc : TypeId × Value → H} {W : World} {base : Nat} {held : Bool}
theorem u8_natJ {a : Int} (h : (Lit.int .u8 a).wf = true) : ∃ n : Nat, a = (n : Int) ∧ n < 256 := by
  have := bounds_u8 h
  exact ⟨a.toNat, by omega, by omega⟩
set_option maxRecDepth 100000 in
theorem open_bools {fuel : Nat} {h : Value} {x : DataW H × List MemPlace} (ht : DataW.trod enc Tryz.prog W base (fun _ => true) held fuel 56 [h] = some x) : ∃ l : List Bool, Row W 1 h l.length (blsC l) := by
  rcases open_slice Tryz.underlying56 ht with ⟨e, _⟩ | ⟨a, len, cap, m, n, D, Pl, e, _, hl, hm, hmm, _, hi⟩
  · simp only [List.cons.injEq, and_true] at e
    subst e
    exact ⟨[], Row.nil W 1⟩
  · simp only [List.cons.injEq, and_true] at e
    subst e
    simp only [if_true] at hmm
    subst hmm
    have hC : Tryz.prog.cellsOf 4 = 1 := by kernel_rfl
    rw [hC] at hi
    obtain ⟨l, hln, hp⟩ := list_of (p := fun i (v : Bool) => W.cells? base (a.add (i * 1)) 1 = some ((fun b => [Value.bool b]) v)) m fun i hi' => by
      obtain ⟨cs, h1, h2⟩ := hi i hi'
      obtain ⟨b, e4, _⟩ := DataW.trod_bool Tryz.underlying4 h2
      exact ⟨b, by rw [h1, e4]⟩
    have hr := row_of_cells (fun b => [Value.bool b]) 1 (fun _ => rfl) (by decide) hl hm l hln fun i hi => hp i hi
    refine ⟨l.take len, ?_⟩
    have e : (l.take len).length = len := by rw [List.length_take]; omega
    have e2 : ∀ l : List Bool, blsC l = l.flatMap fun b => [Value.bool b] := fun l => by
      induction l with
      | nil => rfl
      | cons x r ih => rw [List.flatMap_cons, ← ih]; rfl
    rw [e, e2]; exact hr
set_option maxRecDepth 100000 in
theorem open_store {fuel : Nat} {cs : List Value} {x : DataW H × List MemPlace} (h : DataW.trod enc Tryz.prog W base (fun _ => true) held fuel 58 cs = some x) : ∃ (gv mv : Value) (d : Int) (G M : List Bool), cs = [gv, mv, .int .i64 d] ∧ Row W 1 gv G.length (blsC G) ∧ Row W 1 mv M.length (blsC M) := by
  obtain ⟨xs, n, _, ex, hl, hx, hf⟩ := DataW.trod_struct Tryz.underlying58 h
  have hC : Tryz.prog.cellsOf 58 = 3 := by kernel_rfl
  rw [hC] at hl
  match cs, hl with
  | [c0, c1, c2], _ =>
    match xs, hx with
    | [y0, y1, y2], _ =>
      have q3 : Tryz.prog.cellsOf 3 = 1 := by kernel_rfl
      have q56 : Tryz.prog.cellsOf 56 = 1 := by kernel_rfl
      have h0 := hf 0 _ rfl
      have h1 := hf 1 _ rfl
      have h2 := hf 2 _ rfl
      simp only [q3, q56, List.getElem_toArray, List.getElem_cons_zero, List.getElem_cons_succ, List.getElem?_cons_zero, List.getElem?_cons_succ, List.drop_zero, List.drop_succ_cons, List.take_succ_cons, List.take_zero] at h0 h1 h2
      obtain ⟨G, hG⟩ := open_bools h0
      obtain ⟨M, hM⟩ := open_bools h1
      obtain ⟨k2, e2, _, w2⟩ := DataW.trod_int Tryz.underlying3 h2
      simp only [List.cons.injEq, and_true] at e2
      subst e2
      exact ⟨c0, c1, k2, G, M, rfl, hG, hM⟩
set_option maxRecDepth 100000 in
theorem arg_store {b0 : Nat} {v : Value} {d : DataW H} {p : List MemPlace} (hv : Value.okWide Tryz.prog W .any b0 58 v) (h : DataW.Trod enc Tryz.prog W base (fun _ => true) held 58 v d p) : ∃ (gv mv : Value) (d : Int) (G M : List Bool), v = .agg #[gv, mv, .int .i64 d] ∧ Row W 1 gv G.length (blsC G) ∧ Row W 1 mv M.length (blsC M) := by
  obtain ⟨cs, rfl, hsz⟩ := okWide_struct Tryz.underlying58 hv
  obtain ⟨fuel, hf⟩ := h
  obtain ⟨gv, mv, d, G, M, e, h1, h2⟩ := open_store hf
  refine ⟨gv, mv, d, G, M, ?_, h1, h2⟩
  obtain ⟨l⟩ := cs
  simp only [Value.cells] at e
  subst e; rfl
set_option maxRecDepth 100000 in
theorem open_move {fuel : Nat} {cs : List Value} {x : DataW H × List MemPlace} (h : DataW.trod enc Tryz.prog W base (fun _ => true) held fuel 63 cs = some x) : ∃ y : Int × Nat × Nat, cs = mvC y ∧ y.2.1 < 256 ∧ y.2.2 < 256 := by
  obtain ⟨xs, n, _, ex, hl, hx, hf⟩ := DataW.trod_struct Tryz.underlying63 h
  have hC : Tryz.prog.cellsOf 63 = 3 := by kernel_rfl
  rw [hC] at hl
  match cs, hl with
  | [c0, c1, c2], _ =>
    match xs, hx with
    | [y0, y1, y2], _ =>
      have q5 : Tryz.prog.cellsOf 5 = 1 := by kernel_rfl
      have h0 := hf 0 _ rfl
      have h1 := hf 1 _ rfl
      have h2 := hf 2 _ rfl
      simp only [q5, List.getElem_toArray, List.getElem_cons_zero, List.getElem_cons_succ, List.getElem?_cons_zero, List.getElem?_cons_succ, List.drop_zero, List.drop_succ_cons, List.take_succ_cons, List.take_zero] at h0 h1 h2
      obtain ⟨k0, e0, _, w0⟩ := DataW.trod_int Tryz.underlying5 h0
      obtain ⟨k1, e1, _, w1⟩ := DataW.trod_int Tryz.underlying5 h1
      obtain ⟨k2, e2, _, w2⟩ := DataW.trod_int Tryz.underlying5 h2
      simp only [List.cons.injEq, and_true] at e0 e1 e2
      subst e0; subst e1; subst e2
      obtain ⟨n1, rfl, hn1⟩ := u8_natJ w1
      obtain ⟨n2, rfl, hn2⟩ := u8_natJ w2
      exact ⟨(k0, n1, n2), rfl, hn1, hn2⟩
set_option maxRecDepth 100000 in
theorem arg_moves {b0 : Nat} {v : Value} {d : DataW H} {p : List MemPlace} (hv : Value.okWide Tryz.prog W .any b0 59 v) (h : DataW.Trod enc Tryz.prog W base (fun _ => true) held 59 v d p) : ∃ us : List (Int × Nat × Nat), Row W 3 v us.length (us.flatMap mvC) ∧ ∀ x ∈ us, x.2.1 < 256 ∧ x.2.2 < 256 := by
  obtain ⟨a, len, cap, rfl⟩ := okWide_slice Tryz.underlying59 hv
  obtain ⟨fuel, hf⟩ := h
  rcases open_slice Tryz.underlying59 hf with ⟨e, _⟩ | ⟨a, len, cap, m, n, D, Pl, e, _, hl, hm, hmm, _, hi⟩
  · simp only [Value.cells, List.cons.injEq, and_true] at e
    rw [e]
    exact ⟨[], Row.nil W 3, (fun _ h => by cases h)⟩
  · simp only [Value.cells, List.cons.injEq, and_true] at e
    rw [e]
    simp only [if_true] at hmm
    subst hmm
    have hC : Tryz.prog.cellsOf 63 = 3 := by kernel_rfl
    rw [hC] at hi
    obtain ⟨l, hln, hp⟩ := list_of (p := fun i (v : Int × Nat × Nat) => W.cells? base (a.add (i * 3)) 3 = some (mvC v) ∧ v.2.1 < 256 ∧ v.2.2 < 256) m fun i hi' => by
      obtain ⟨cs, h1, h2⟩ := hi i hi'
      obtain ⟨v, rfl, hv⟩ := open_move h2
      exact ⟨v, h1, hv⟩
    have hr := row_of_cells mvC 3 mvC_len (by decide) hl hm l hln fun i hi => (hp i hi).1
    have e : (l.take len).length = len := by rw [List.length_take]; omega
    refine ⟨l.take len, by rw [e]; exact hr, fun y hy => ?_⟩
    obtain ⟨i, hi, rfl⟩ := List.getElem_of_mem hy
    rw [List.getElem_take]
    exact (hp i (by omega)).2
end
end Go.Proofs.YtaklnpjpndkccaaGreat
