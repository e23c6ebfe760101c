/- slices.SortFunc at constraints. -/
import Derived.Test.YtkefppdacigbmaaS3
namespace Go.Proofs.Ytkefppdacigbmaa
open Go.RowKit Go.Sort

theorem Row.keep {w w' : World} {size n : Nat} {v : Value} {xs : List Value} {row : Option Nat} (h : Row w size v n xs) (hg : w.grownBy w' row) (hne : v.ownBlock ≠ row ∨ row = none) : Row w' size v n xs := by
  obtain ⟨h1, a, cap, rfl, h3, h4, h5, h6, h7⟩ := h
  refine ⟨h1, a, cap, rfl, h3, h4, h5, h6, fun j u hj => ?_⟩
  obtain ⟨p, rfl, hc⟩ := h7 j u hj
  refine ⟨p, rfl, ?_⟩
  have hlt : p.block < w.heap.size := by
    rcases Nat.lt_or_ge p.block w.heap.size with h | h
    · exact h
    · have : w.cell? ⟨p.block, p.off + j, none⟩ = none := by simp [World.cell?, Array.getElem?_eq_none h]
      rw [this] at hc; cases hc
  rw [World.cell?_of_block (a := ⟨p.block, p.off + j, none⟩) (hg.block p.block hlt ?_)]
  · exact hc
  · rcases hne with hne | hne
    · exact hne
    · rw [hne]; simp

/-- A constraint with its set, where it may be sorted: its set lies, and not in the row's own block. -/
def SC (w : World) (g : Nat) : Type := { x : CS // SetR w x.h x.c.set ∧ x.h.ownBlock ≠ some g }
def scC {w : World} {g : Nat} (x : SC w g) : List Value := csC x.1
def scO {w : World} {g : Nat} (x y : SC w g) : Int := orderC x.1.c y.1.c
theorem set_one {w : World} {h : Value} {l : List V} (k : SetR w h l) : h.oneCell' = true := by
  obtain ⟨a, cap, rfl, _, _⟩ := Row.shape k; rfl
theorem swo_SC {w : World} {g : Nat} : WO (scO (w := w) (g := g)) := ⟨fun _ _ => wo_C.anti _ _, fun _ _ _ => wo_C.trans _ _ _⟩

theorem SC.lift {w : World} {g : Nat} : ∀ (us : List CS), (∀ x ∈ us, SetR w x.h x.c.set ∧ x.h.ownBlock ≠ some g) → ∃ ss : List (SC w g), ss.map (·.1) = us
  | [], _ => ⟨[], rfl⟩
  | x :: r, h => by
    obtain ⟨ss, e⟩ := SC.lift r fun y hy => h y (List.mem_cons_of_mem _ hy)
    exact ⟨⟨x, h x List.mem_cons_self⟩ :: ss, congrArg (x :: ·) e⟩

theorem bits115_any (n : Nat) (hn : n ≤ 1000000) (w : World) : Calls Try.prog 115 #[.int .u64 n] w fun e w' => e = .returned (.int .i64 (Lib.bitLen n)) ∧ w' = w := by
  have h := Any.bits_Len Try.bitsLen (n : Int) w (by omega) (by omega)
  rw [Int.toNat_natCast] at h
  exact h

theorem pdqC_any (w : World) (base g cap : Nat) (us : List CS) (ho : w.ownsRow base 31 7 (.slice (some ⟨g, 0, none⟩) us.length cap) us.length (us.flatMap csC)) (hl : us.length ≤ 12) (h0 : us ≠ [])
    (hs : ∀ x ∈ us, SetR w x.h x.c.set ∧ x.h.ownBlock ≠ some g) (lim : Int) :
    Calls Try.prog 152 #[.slice (some ⟨g, 0, none⟩) us.length cap, .int .i64 0, .int .i64 us.length, .int .i64 lim, .func (.func 65) #[] #[]] w
      fun e w' => e = .returned (.tuple #[]) ∧ ∃ us' : List CS, us'.Perm us ∧ (us'.Pairwise fun a b => orderC a.c b.c ≤ 0) ∧ w'.ownsRow base 31 7 (.slice (some ⟨g, 0, none⟩) us.length cap) us.length (us'.flatMap csC) ∧ w.grownBy w' (some g) := by
  obtain ⟨cur, hg, hb, hn, hm, hsz, hlt, hH⟩ := own_holds ho
  obtain ⟨ss, hss⟩ := SC.lift us hs
  have hsl : ss.length = us.length := by rw [← hss, List.length_map]
  have hfl : ss.flatMap scC = us.flatMap csC := by rw [← hss, List.flatMap_map]; rfl
  haveI : Inhabited (SC w g) := ⟨ss.head (by intro h; rw [h] at hsl; exact h0 (List.length_eq_zero_iff.1 hsl.symm))⟩
  have hk : ∀ x : SC w g, (scC x).length = 7 := fun _ => rfl
  have ho2 : w.ownsRow base 31 7 (.slice (some ⟨g, 0, none⟩) us.length cap) us.length (ss.flatMap scC) := by rw [hfl]; exact ho
  have hHK := own_holdsK scC (by decide) hk ho2
  have hone : ∀ x : SC w g, ∀ u ∈ scC x, u.oneCell' = true := fun x u hu => csC_one [x.1] (fun y hy => by rw [List.mem_singleton.1 hy]; exact set_one x.2.1) u (by simpa [scC] using hu)
  have hcmp : CmpLays (α := SC w g) Try.prog 65 #[] scC 7 scO g 0 ss.toArray.size w := fun m os dk hdk x y => by
    have hgw : w.grownBy (sortWorldK scC 7 w g 0 m dk os) (some g) := by unfold sortWorldK putRowK; exact grownBy_row _
    obtain ⟨a1, c1, e1, _, _⟩ := Row.shape x.2.1
    obtain ⟨a2, c2, e2, _, _⟩ := Row.shape y.2.1
    have hx := Row.keep x.2.1 hgw (.inl x.2.2)
    have hy := Row.keep y.2.1 hgw (.inl y.2.2)
    have := order_any (sortWorldK scC 7 w g 0 m dk os) x.1.c y.1.c a1 c1 a2 c2 (by rw [← e1]; exact hx) (by rw [← e2]; exact hy)
    rw [← e1, ← e2] at this
    exact this.mono fun _ _ ⟨he, hx⟩ => ⟨he, hx.grown⟩
  have h12 : ss.toArray.size ≤ 12 := by simp; omega
  have hc := AnyQ.pdqsortCmpFunc_small Try.sortC 7 (fun w => Try.isAgg31 w) (fun w => Try.sizeOf31 w) scC hk hone scO 65 #[] g 0 cap 0 ss.toArray.size lim ss.toArray w ent65 hcmp hHK hlt (Nat.zero_le _) (Nat.le_refl _) (by omega) (by omega)
  have e1 : ss.toArray.size = us.length := by simp [hsl]
  have hsort := insertionSort_holds (lt := ltOf (scO (w := w) (g := g))) (wo_swo swo_SC) ss.toArray 0 ss.toArray.size (Nat.zero_le _) (Nat.le_refl _)
  rw [e1] at hc
  refine hc.mono ?_
  rintro e w' ⟨rfl, n, os, rfl⟩
  rw [← e1]
  generalize insertionSort (ltOf scO) ss.toArray 0 ss.toArray.size = d' at *
  obtain ⟨p1, p2⟩ := sorted_list (cf := scO) hsort.1 hsort.2 swo_SC.anti
  have hll : d'.toList.length = ss.length := p1.length_eq
  have hfin := own_sorted (m := n) (os := os) scC (by decide) hk ho2 hll
  refine ⟨rfl, d'.toList.map (·.1), ?_, ?_, ?_, hfin.2⟩
  · rw [← hss]; exact p1.map _
  · rw [List.pairwise_map]; exact p2
  · have : (d'.toList.map (·.1)).flatMap csC = d'.toList.flatMap scC := by rw [List.flatMap_map]; rfl
    rw [this, e1]
    exact hfin.1
end Go.Proofs.Ytkefppdacigbmaa
