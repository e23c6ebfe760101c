import Derived.Deep.CutBlock
import Derived.Test.YtaklnpjpndkccaaGreatPk9
import Derived.Test.YtaklnpjpndkccaaGreatPk11
import Derived.Test.YtaklnpjpndkccaaGreatPk7
import Derived.Test.YtaklnpjpndkccaaGreatPk12
import Derived.Test.YtaklnpjpndkccaaGreatPk13
namespace Go.Proofs.YtaklnpjpndkccaaGreat
open Go.RowKit Go.Sort
def gonB (G : List Bool) (n : Nat) : Bool := G.getD (n - 1) false
def relB (G M : List Bool) (n : Nat) : Bool := gonB G n || gonB M n
def itW (M : List Bool) (n : Nat) : PI := ⟨n, 0, [], [([97], ⟨1, if gonB M n = true then 1 else -1, [], false⟩)]⟩
def geL : List C := [⟨[97], 7, ⟨1, 0, [], false⟩, []⟩]
theorem itW_match (M : List Bool) (n : Nat) : matchP geL (itW M n).av = gonB M n := by
 unfold itW
 generalize gonB M n = b
 cases b <;> kernel_rfl
def ElW (G M : List Bool) (d : PD) : Prop :=
 (∃ f g, d = PD.ofG (f, g) ∧ 1 ≤ f ∧ f ≤ g ∧ ∀ n, f ≤ n → n ≤ g → gonB G n = true) ∨ (∃ n, d = PD.ofI (itW M n) ∧ 1 ≤ n ∧ gonB G n = false ∧ gonB M n = true)
theorem begG (f g : Nat) : (PD.ofG (f, g)).beg = f := rfl
theorem numG (f g : Nat) : (PD.ofG (f, g)).num = g := Nat.zero_max g
theorem begI {M : List Bool} {n : Nat} (h : 1 ≤ n) : (PD.ofI (itW M n)).beg = n := if_pos h
theorem numI (M : List Bool) (n : Nat) : (PD.ofI (itW M n)).num = n := Nat.max_zero n
theorem ElW.num {G M : List Bool} {d : PD} (h : ElW G M d) : d.beg ≤ d.num ∧ 1 ≤ d.beg := by
 rcases h with ⟨f, g, rfl, h1, h2, _⟩ | ⟨n, rfl, h1, _⟩
 · rw [begG, numG]; exact ⟨h2, h1⟩
 · rw [begI h1, numI]; exact ⟨Nat.le_refl _, h1⟩
theorem ElW.rel {G M : List Bool} {d : PD} (h : ElW G M d) {n : Nat} (h1 : d.beg ≤ n) (h2 : n ≤ d.num) : relB G M n = true ∧ gonB G n = decide (d.n = 0) := by
 rcases h with ⟨f, g, rfl, _, _, h3⟩ | ⟨k, rfl, h3, h4, h5⟩
 · rw [begG] at h1
   rw [numG] at h2
   have := h3 n h1 h2
   refine ⟨by unfold relB; rw [this]; rfl, this.trans ?_⟩
   rfl
 · rw [begI h3] at h1
   rw [numI] at h2
   have : n = k := by omega
   subst this
   refine ⟨by unfold relB; rw [h5, Bool.or_true], h4.trans ?_⟩
   have : ¬ (PD.ofI (itW M n)).n = 0 := by show ¬ n = 0; omega
   exact (decide_eq_false this).symm
def CovW (G M : List Bool) : Nat → List PD → Nat → Prop
 | a, [], b => a ≤ b ∧ ∀ n, a ≤ n → n < b → relB G M n = false
 | a, d :: r, b => ElW G M d ∧ a ≤ d.beg ∧ (∀ n, a ≤ n → n < d.beg → relB G M n = false) ∧ CovW G M (d.num + 1) r b
variable {G M : List Bool}
theorem cov_len : ∀ {L : List PD} {a b : Nat}, CovW G M a L b → L.length + a ≤ b
 | [], _, _, h => by simpa using h.1
 | d :: r, a, b, h => by
   have := cov_len h.2.2.2
   have := h.1.num
   have := h.2.1
   simp only [List.length_cons]
   omega
theorem cov_le {L : List PD} {a b : Nat} (h : CovW G M a L b) : a ≤ b := by have := cov_len h; omega
theorem cov_from {L : List PD} {a b c : Nat} (h : CovW G M b L c) (h1 : a ≤ b) (h2 : ∀ n, a ≤ n → n < b → relB G M n = false) : CovW G M a L c := by
 cases L with
 | nil => exact ⟨Nat.le_trans h1 h.1, fun n k1 k2 => by
    by_cases hn : n < b
    · exact h2 n k1 hn
    · exact h.2 n (by omega) k2⟩
 | cons d r => exact ⟨h.1, Nat.le_trans h1 h.2.1, fun n k1 k2 => by
    by_cases hn : n < b
    · exact h2 n k1 hn
    · exact h.2.2.1 n (by omega) k2, h.2.2.2⟩
theorem cov_app : ∀ {X Y : List PD} {a b c : Nat}, CovW G M a X b → CovW G M b Y c → CovW G M a (X ++ Y) c
 | [], _, _, _, _, h, k => cov_from k h.1 h.2
 | _ :: _, _, _, _, _, h, k => ⟨h.1, h.2.1, h.2.2.1, cov_app h.2.2.2 k⟩
theorem cov_to {L : List PD} {a b c : Nat} (h : CovW G M a L b) (h1 : b ≤ c) (h2 : ∀ n, b ≤ n → n < c → relB G M n = false) : CovW G M a L c := by
 have := cov_app h (show CovW G M b [] c from ⟨h1, h2⟩)
 rwa [List.append_nil] at this
def gpsOf : List PD → List (Nat × Nat)
 | [] => []
 | d :: r => if d.n = 0 then (d.f, d.g) :: gpsOf r else gpsOf r
def itsOf : List PD → List PI
 | [] => []
 | d :: r => if d.n = 0 then itsOf r else ⟨d.n, d.t, d.key, d.av⟩ :: itsOf r
theorem El_item {d : PD} (h : ElW G M d) (h0 : d.n ≠ 0) : d = PD.ofI ⟨d.n, d.t, d.key, d.av⟩ ∧ d.beg = d.n ∧ d.num = d.n ∧ d.av = (itW M d.n).av ∧ gonB M d.n = true := by
 rcases h with ⟨f, g, rfl, h1, h2, _⟩ | ⟨n, rfl, h1, _, h3⟩
 · exact absurd rfl h0
 · exact ⟨rfl, begI h1, numI M n, rfl, h3⟩
theorem cov_none {L : List PD} {a m : Nat} (h : CovW G M a L m) (h1 : relB G M m = false) : CovW G M a L (m + 1) :=
 cov_to h (Nat.le_succ m) fun n k1 k2 => by have : n = m := by omega
                                            rw [this]; exact h1
theorem wants_cov {next : Nat} {d : PD} (h : ElW G M d) (h1 : next ≤ d.beg) (h2 : d.num ≤ 1099511627776) : wantsB geL next d = true := by
 unfold wantsB mayD
 have hn := h.num
 simp only [Bool.and_eq_true, Bool.or_eq_true, decide_eq_true_eq]
 refine ⟨⟨hn.2, hn.1, h2⟩, h1, ?_⟩
 by_cases h0 : d.n = 0
 · exact .inl h0
 · have hd := El_item h h0
   exact .inr (by rw [hd.2.2.2.1, itW_match]; exact hd.2.2.2.2)
theorem pageL_cov (room : Int) (a en : Nat) (hen : en ≤ 1099511627777) : ∀ (L : List PD) (next : Nat) (out : List PD), CovW G M a out next → CovW G M next L en →
 CovW G M a (pageL geL room L next out).1 (pageL geL room L next out).2.1 ∧ (pageL geL room L next out).2.1 ≤ en ∧
  ((pageL geL room L next out).2.2 = false → CovW G M a (pageL geL room L next out).1 en) ∧ ((pageL geL room L next out).2.2 = true → room < (out.length : Int) + L.length)
 | [], next, out, h, k => by
   rw [pageL]
   exact ⟨h, k.1, fun _ => cov_to h k.1 k.2, fun h => by cases h⟩
 | d :: r, next, out, h, k => by
   have hl := cov_le k.2.2.2
   have hw := wants_cov (next := next) k.1 k.2.1 (by omega)
   rw [pageL, if_pos hw]
   by_cases hr : room ≤ (out.length : Int)
   · rw [if_pos hr]
     have hn := k.1.num
     refine ⟨cov_to h k.2.1 k.2.2.1, by show d.beg ≤ en; omega, (fun h => by cases h), fun _ => ?_⟩
     simp only [List.length_cons]; omega
   · rw [if_neg hr]
     have h2 : CovW G M a (out ++ [d]) (d.num + 1) := cov_app h ⟨k.1, k.2.1, k.2.2.1, Nat.le_refl _, fun n k1 k2 => by omega⟩
     obtain ⟨e1, e2, e3, e4⟩ := pageL_cov room a en hen r (d.num + 1) (out ++ [d]) h2 k.2.2.2
     refine ⟨e1, e2, e3, fun h => ?_⟩
     have := e4 h
     simp only [List.length_append, List.length_cons, List.length_nil] at this ⊢
     omega
theorem pageP_cov (room : Int) (en next : Nat) (last : Bool) (hen : en ≤ 1099511627777) (L : List PD) (k : CovW G M next L en) :
 CovW G M next (pageP geL room en last L next).1 (pageP geL room en last L next).2.1 ∧ (pageP geL room en last L next).2.1 ≤ en ∧
  ((pageP geL room en last L next).2.2 = 1 ∨ ((pageP geL room en last L next).2.2 = 3 ∧ last = true ∧ (pageP geL room en last L next).2.1 = en)) ∧
  ((L.length : Int) ≤ room → (pageP geL room en last L next).2.1 = en ∧ (pageP geL room en last L next).2.2 = if last then 3 else 1) := by
 obtain ⟨h1, h2, h3, h4⟩ := pageL_cov (G := G) (M := M) room next en hen L next [] ⟨Nat.le_refl _, fun n k1 k2 => by omega⟩ k
 unfold pageP
 generalize pageL geL room L next [] = R at *
 obtain ⟨out, nx, b⟩ := R
 dsimp only at h1 h2 h3 h4
 cases b
 · have e : max nx (min en 1099511627777) = en := by have : nx ≤ en := h2; omega
   show CovW G M next out (max nx (min en 1099511627777)) ∧ max nx (min en 1099511627777) ≤ en ∧ ((if last = true then (3 : Int) else 1) = 1 ∨ ((if last = true then (3 : Int) else 1) = 3 ∧ last = true ∧ max nx (min en 1099511627777) = en)) ∧ _
   rw [e]
   refine ⟨h3 rfl, Nat.le_refl _, ?_, fun _ => ⟨e, rfl⟩⟩
   cases last
   · exact .inl rfl
   · exact .inr ⟨rfl, rfl, rfl⟩
 · refine ⟨h1, h2, .inl rfl, fun h => ?_⟩
   have := h4 rfl
   simp only [List.length_nil] at this
   omega
structure Spl (G M : List Bool) (first D next : Nat) (st cnt : Int) (count asked : Nat) (told : List PD) : Prop where
 cov : CovW G M first told next
 hi : next ≤ max first (D + 1)
 g : G.length ≤ D
 f1 : 1 ≤ first
 ask : st = 2 → cnt = (count : Int) → asked = next
 cle : cnt ≤ (count : Int)
 live : st = 3 → ∀ n, next ≤ n → n ≤ D → relB G M n = false
 asb : asked ≤ next
variable {first D next count asked : Nat} {st cnt : Int} {told : List PD}
theorem Spl.lo (h : Spl G M first D next st cnt count asked told) : first ≤ next := cov_le h.cov
def enW (D frm scan : Nat) : Nat := max frm (min (frm + scan) (D + 1))
theorem Spl.round (h : Spl G M first D next 2 (count : Int) count asked told) (hD : D ≤ 1000) (hf : first ≤ 1000) {L : List PD} (hL : CovW G M asked L (enW D asked 8)) (k : Nat) (hk : 1 + 8 * k ≤ next) :
 (pageP geL 99 (enW D asked 8) (decide (D < enW D asked 8)) L next).2.2 = 3 ∨ ((pageP geL 99 (enW D asked 8) (decide (D < enW D asked 8)) L next).2.2 = 1 ∧ 1 + 8 * (k + 1) ≤ (pageP geL 99 (enW D asked 8) (decide (D < enW D asked 8)) L next).2.1) := by
 have ha := h.ask rfl rfl
 subst ha
 have hhi := h.hi
 have hen : enW D asked 8 ≤ max first (D + 1) := by unfold enW; omega
 have h8 : enW D asked 8 ≤ asked + 8 := by unfold enW; omega
 obtain ⟨_, _, _, k4⟩ := pageP_cov (G := G) (M := M) 99 (enW D asked 8) asked (decide (D < enW D asked 8)) (by omega) L hL
 have hl := cov_len hL
 obtain ⟨e1, e2⟩ := k4 (by omega)
 rw [e1, e2]
 by_cases hd : D < enW D asked 8
 · left; rw [decide_eq_true hd]; rfl
 · right
   rw [decide_eq_false hd]
   refine ⟨rfl, ?_⟩
   have : enW D asked 8 = max asked (min (asked + 8) (D + 1)) := rfl
   omega
theorem Spl.over (h : Spl G M first D next st cnt count asked told) (hs : st = 3) : CovW G M first told (max first (D + 1)) := by
 refine cov_to h.cov h.hi fun n k1 k2 => ?_
 have := h.lo
 exact h.live hs n k1 (by omega)
def AtW (G M : List Bool) (n : Nat) (L : List PD) (b : Nat) : Prop := CovW G M n L b ∨ ∃ d r, L = d :: r ∧ ElW G M d ∧ d.beg ≤ n ∧ n ≤ d.num ∧ CovW G M (d.num + 1) r b
theorem AtW.skip {n b : Nat} {L : List PD} (h : AtW G M n L b) (hn : n < b) (h1 : relB G M n = false) : AtW G M (n + 1) L b := by
 rcases h with h | ⟨d, r, rfl, h2, h3, h4, h5⟩
 · left
   cases L with
   | nil => exact ⟨hn, fun k k1 k2 => h.2 k (by omega) k2⟩
   | cons d r =>
     have hd := h.1.num
     have hne : d.beg ≠ n := fun e => by
      have := (h.1.rel (n := n) (by omega) (by omega)).1
      rw [h1] at this; cases this
     have := h.2.1
     exact ⟨h.1, by omega, fun k k1 k2 => h.2.2.1 k (by omega) k2, h.2.2.2⟩
 · have := (h2.rel h3 h4).1
   rw [h1] at this; cases this
theorem AtW.take {n b : Nat} {L : List PD} (h : AtW G M n L b) (hn : n < b) (h1 : relB G M n = true) :
 ∃ d r, L = d :: r ∧ d.beg ≤ n ∧ n ≤ d.num ∧ gonB G n = decide (d.n = 0) ∧ (n = d.num → AtW G M (n + 1) r b) ∧ (n ≠ d.num → AtW G M (n + 1) L b) := by
 have key : ∃ d r, L = d :: r ∧ ElW G M d ∧ d.beg ≤ n ∧ n ≤ d.num ∧ CovW G M (d.num + 1) r b := by
  rcases h with h | h
  · cases L with
    | nil =>
      have := h.2 n (Nat.le_refl _) hn
      rw [h1] at this; cases this
    | cons d r =>
      have hd := h.1.num
      have hb : ¬ n < d.beg := fun hlt => by
       have := h.2.2.1 n (Nat.le_refl _) hlt
       rw [h1] at this; cases this
      have := h.2.1
      exact ⟨d, r, rfl, h.1, by omega, by omega, h.2.2.2⟩
  · exact h
 obtain ⟨d, r, rfl, h2, h3, h4, h5⟩ := key
 refine ⟨d, r, rfl, h3, h4, (h2.rel h3 h4).2, fun e => .inl ?_, fun e => .inr ⟨d, r, rfl, h2, by omega, by omega, h5⟩⟩
 rw [e]; exact h5
end Go.Proofs.YtaklnpjpndkccaaGreat
namespace Go.Proofs.YtaklnpjpndkccaaGreat
open Go.RowKit Go.Sort
structure PgW (w W : World) (G M : List Bool) (gv mv : Value) (D frm en m : Nat) (L : List PD) (I : List IM) (hi hg : Value) : Prop where
 st : W.heap[w.heap.size]? = some (.cells #[gv, mv, .int .i64 D] 58 (0, 0))
 rs : W.heap[w.heap.size + 1]? = some (.cells #[.int .u64 0, .int .u64 0, .slice none 0 0, .slice none 0 0, .bool false] 34 (0, 0))
 bx : W.heap[w.heap.size + 1 + 1]? = some (.cells #[.int .u64 frm, .int .u64 en, hi, hg, .bool false] 34 (0, 0))
 x : Ext w W
 cov : CovW G M frm L m
 it : I.map IM.pi = itsOf L
 ir : W.ownsRow w.heap.size 49 4 hi I.length (I.flatMap imC)
 hat : ∀ y ∈ I, AttrO w.heap.size W y.h y.av
 gr : W.ownsRow w.heap.size 51 2 hg (gpsOf L).length ((gpsOf L).flatMap gpC)
section
variable {w W W2 : World} {G M : List Bool} {gv mv : Value} {D frm en m : Nat} {L : List PD} {I : List IM} {hi hg : Value}
theorem PgW.later (h : PgW w W G M gv mv D frm en m L I hi hg) (k : Ext W W2) : PgW w W2 G M gv mv D frm en m L I hi hg :=
 ⟨block_later h.st k, block_later h.rs k, block_later h.bx k, h.x.trans k, h.cov, h.it, own_ext h.ir k, fun y hy => own_ext (h.hat y hy) k, own_ext h.gr k⟩
theorem PgW.skip (h : PgW w W G M gv mv D frm en m L I hi hg) (h1 : relB G M m = false) : PgW w W G M gv mv D frm en (m + 1) L I hi hg :=
 ⟨h.st, h.rs, h.bx, h.x, cov_none h.cov h1, h.it, h.ir, h.hat, h.gr⟩
theorem PgW.set2 (h : PgW w W G M gv mv D frm en m L I hi hg) {L' : List PD} {I' : List IM} {hi' : Value} {W1 : World} {m' : Nat} (hgr : W.grownBy W1 hi.ownBlock) (hc : CovW G M frm L' m') (hit : I'.map IM.pi = itsOf L') (hgp : gpsOf L' = gpsOf L)
 (hir : W1.ownsRow w.heap.size 49 4 hi' I'.length (I'.flatMap imC)) (hat : ∀ y ∈ I', AttrO w.heap.size W1 y.h y.av) : PgW w (W1.setCell ⟨w.heap.size + 1 + 1, 2, none⟩ hi') G M gv mv D frm en m' L' I' hi' hg := by
 have k : ∀ {b : Nat} {c : Array Value} {t : TypeId}, W.heap[b]? = some (.cells c t (0, 0)) → 49 ≠ t → W1.heap[b]? = some (.cells c t (0, 0)) := fun hb ht => (hgr.block _ (Array.getElem?_eq_some_iff.1 hb).1 (fun e => own_ne h.ir hb ht e.symm)).trans hb
 have kb := k h.bx (by decide)
 have hx1 : Ext w W1 := h.x.grown_none hgr (own_base h.ir)
 refine ⟨?_, ?_, ?_, hx1.setCell (p := ⟨w.heap.size + 1 + 1, 2, none⟩) (by show w.heap.size ≤ w.heap.size + 1 + 1; omega) _, hc, hit, own_setJ hir kb (by decide) _ _, fun y hy => own_setJ (hat y hy) kb (by decide) _ _, ?_⟩
 · exact (setCell_block_far W1 ⟨w.heap.size + 1 + 1, 2, none⟩ hi' _ (by show w.heap.size ≠ w.heap.size + 1 + 1; omega)).trans (k h.st (by decide))
 · exact (setCell_block_far W1 ⟨w.heap.size + 1 + 1, 2, none⟩ hi' _ (by show w.heap.size + 1 ≠ w.heap.size + 1 + 1; omega)).trans (k h.rs (by decide))
 · have := setCell_blockJ 2 hi' kb
   simpa only [List.setIfInBounds_toArray, List.set_cons_zero, List.set_cons_succ] using this
 · rw [hgp]
   exact own_setJ (own_keep h.gr hgr (own_apart h.ir h.gr (by decide))) kb (by decide) _ _
theorem PgW.set3 (h : PgW w W G M gv mv D frm en m L I hi hg) {L' : List PD} {hg' : Value} {W1 : World} {m' : Nat} (hgr : W.grownBy W1 hg.ownBlock) (hc : CovW G M frm L' m') (hit : itsOf L' = itsOf L)
 (hgg : W1.ownsRow w.heap.size 51 2 hg' (gpsOf L').length ((gpsOf L').flatMap gpC)) : PgW w (W1.setCell ⟨w.heap.size + 1 + 1, 3, none⟩ hg') G M gv mv D frm en m' L' I hi hg' := by
 have k : ∀ {b : Nat} {c : Array Value} {t : TypeId}, W.heap[b]? = some (.cells c t (0, 0)) → 51 ≠ t → W1.heap[b]? = some (.cells c t (0, 0)) := fun hb ht => (hgr.block _ (Array.getElem?_eq_some_iff.1 hb).1 (fun e => own_ne h.gr hb ht e.symm)).trans hb
 have kb := k h.bx (by decide)
 have hx1 : Ext w W1 := h.x.grown_none hgr (own_base h.gr)
 refine ⟨?_, ?_, ?_, hx1.setCell (p := ⟨w.heap.size + 1 + 1, 3, none⟩) (by show w.heap.size ≤ w.heap.size + 1 + 1; omega) _, hc, h.it.trans hit.symm, own_setJ (own_keep h.ir hgr (own_apart h.gr h.ir (by decide))) kb (by decide) _ _, fun y hy => own_setJ (own_keep (h.hat y hy) hgr (own_apart h.gr (h.hat y hy) (by decide))) kb (by decide) _ _, ?_⟩
 · exact (setCell_block_far W1 ⟨w.heap.size + 1 + 1, 3, none⟩ hg' _ (by show w.heap.size ≠ w.heap.size + 1 + 1; omega)).trans (k h.st (by decide))
 · exact (setCell_block_far W1 ⟨w.heap.size + 1 + 1, 3, none⟩ hg' _ (by show w.heap.size + 1 ≠ w.heap.size + 1 + 1; omega)).trans (k h.rs (by decide))
 · have := setCell_blockJ 3 hg' kb
   simpa only [List.setIfInBounds_toArray, List.set_cons_zero, List.set_cons_succ] using this
 · exact own_setJ hgg kb (by decide) _ _
end
theorem own_baseW {w : World} {base size n : Nat} {e : TypeId} {a : Option Addr} {m c : Nat} {xs : List Value} (h : w.ownsRow base e size (.slice a m c) n xs) (hn : 0 < n) : ∃ B, a = some ⟨B, 0, none⟩ ∧ ∃ cur, w.heap[B]? = some (.cells cur e (0, 0)) := by
 rcases h.2 with ⟨e0, h0⟩ | ⟨g, cap, cur, e0, _, hg, _⟩
 · omega
 · cases e0; exact ⟨g, rfl, cur, hg⟩
end Go.Proofs.YtaklnpjpndkccaaGreat
namespace Go.Proofs.YtaklnpjpndkccaaGreat
open Go.RowKit Go.Sort
def PredB (b : Nat) (w : World) (pv : Value) (p : List C) : Prop := ∃ us : List CS, us.map CS.c = p ∧ w.ownsRow b 94 7 pv us.length (us.flatMap csC) ∧ ∀ x ∈ us, SetO b w x
theorem PredB.far {b k i : Nat} {w : World} {pv u : Value} {p : List C} (h : PredB b w pv p) (hk : k < b) : PredB b (w.setCell ⟨k, i, none⟩ u) pv p := by
 obtain ⟨us, e, h1, h2⟩ := h
 have hh : ∀ {v : Value} {xs : List Value} {n size : Nat} {e : TypeId}, w.ownsRow b e size v n xs → (w.setCell ⟨k, i, none⟩ u).ownsRow b e size v n xs := fun ho => own_keep ho (grown_setJ w k i u) fun q hq e2 => by cases e2; have := own_base ho k hq; omega
 exact ⟨us, e, hh h1, fun x hx => hh (h2 x hx)⟩
theorem PredB.pr {b : Nat} {w : World} {pv : Value} {p : List C} (h : PredB b w pv p) : PredR w pv p := by
 obtain ⟨us, rfl, h1, h2⟩ := h
 exact PredR.mk us (Row.of_own h1) fun x hm => (h2 x hm).set
structure WhW (w W : World) (sb bs base nb : Nat) (gv mv : Value) (G M : List Bool) (first D Db next : Nat) (st cnt : Int) (count asked : Nat) (tv : Value) (T : List DM) : Prop where
 spl : Spl G M first D next st cnt count asked (T.map DM.pd)
 box : W.heap[sb]? = some (.cells #[gv, mv, .int .i64 Db] 58 (0, 0))
 s : ∃ w0 pv, SplR w0 W bs pv geL next st cnt ∧ PredB base w0 pv geL ∧ base ≤ nb ∧ w0.heap.size = nb
 sb1 : w.heap.size ≤ sb
 sb2 : sb < base
 x : Ext w W
 row : W.ownsRow nb 53 6 tv T.length (T.flatMap dmC)
section
variable {w W W' : World} {sb bs base nb : Nat} {gv mv : Value} {G M : List Bool} {first D Db next : Nat} {st cnt : Int} {count asked : Nat} {tv : Value} {T : List DM}
theorem WhW.later (h : WhW w W sb bs base nb gv mv G M first D Db next st cnt count asked tv T) (k : Ext W W') : WhW w W' sb bs base nb gv mv G M first D Db next st cnt count asked tv T := by
 obtain ⟨w0, pv, h1, h2, h3⟩ := h.s
 exact ⟨h.spl, block_later h.box k, ⟨w0, pv, h1.later k, h2, h3⟩, h.sb1, h.sb2, h.x.trans k, own_ext h.row k⟩
theorem WhW.ne (h : WhW w W sb bs base nb gv mv G M first D Db next st cnt count asked tv T) : sb ≠ bs := by
 obtain ⟨w0, pv, h1, h2, h3⟩ := h.s
 have := h1.old
 have := h3.1
 have := h3.2
 have := h.sb2
 omega
theorem WhW.bsw (h : WhW w W sb bs base nb gv mv G M first D Db next st cnt count asked tv T) : w.heap.size ≤ bs := by
 obtain ⟨w0, pv, h1, h2, h3⟩ := h.s
 have := h1.old
 have := h3.1
 have := h3.2
 have := h.sb2
 have := h.sb1
 omega
theorem WhW.len (h : WhW w W sb bs base nb gv mv G M first D Db next st cnt count asked tv T) : T.length + first ≤ next ∧ next ≤ max first (D + 1) := by
 have := cov_len h.spl.cov
 rw [List.length_map] at this
 exact ⟨this, h.spl.hi⟩
theorem WhW.turn (h : WhW w W sb bs base nb gv mv G M first D Db next st cnt count asked tv T) (hg : W.grownBy W' (some bs)) {next' : Nat} {st' cnt' : Int} {count' asked' : Nat} {w0 : World} {pv : Value} (hS : SplR w0 W' bs pv geL next' st' cnt') (hP : PredB base w0 pv geL) (hb : base ≤ nb ∧ w0.heap.size = nb)
 (hspl : Spl G M first D next' st' cnt' count' asked' (T.map DM.pd)) : WhW w W' sb bs base nb gv mv G M first D Db next' st' cnt' count' asked' tv T := by
 obtain ⟨_, _, h1, _, _⟩ := h.s
 exact ⟨hspl, (hg.block sb (Array.getElem?_eq_some_iff.1 h.box).1 (by intro e; cases e; exact h.ne rfl)).trans h.box, ⟨w0, pv, hS, hP, hb⟩, h.sb1, h.sb2, ext_but h.x hg h.bsw, own_keep h.row hg fun k hk e => own_ne h.row h1.sp (by decide) (hk.trans e.symm)⟩
structure WhT (w W : World) (sb bs base nb : Nat) (gv mv : Value) (G M : List Bool) (first D Db next : Nat) (st cnt : Int) (count asked : Nat) (tv : Value) (T : List DM) (ov : Value) (O : List DM) : Prop where
 spl : Spl G M first D next st cnt count asked ((T ++ O).map DM.pd)
 box : W.heap[sb]? = some (.cells #[gv, mv, .int .i64 Db] 58 (0, 0))
 s : ∃ w0 pv, SplR w0 W bs pv geL next st cnt ∧ PredB base w0 pv geL ∧ base ≤ nb ∧ w0.heap.size = nb
 sb1 : w.heap.size ≤ sb
 sb2 : sb < base
 x : Ext w W
 row : W.ownsRow nb 53 6 tv T.length (T.flatMap dmC)
 o : Row W 6 ov O.length (O.flatMap dmC)
theorem WhT.len {ov : Value} {O : List DM} (h : WhT w W sb bs base nb gv mv G M first D Db next st cnt count asked tv T ov O) : T.length + O.length + first ≤ next ∧ next ≤ max first (D + 1) := by
 have := cov_len h.spl.cov
 rw [List.length_map, List.length_append] at this
 exact ⟨this, h.spl.hi⟩
end
end Go.Proofs.YtaklnpjpndkccaaGreat
