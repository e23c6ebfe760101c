/- Disk: which names may be; there's question. -/
import Derived.Test.YtdfnfmanpdafpaaDoorD5
import Derived.Test.YtdfnfmanpdafpaaDoorDk
import Derived.Lib.SlTrimSet
import Derived.BigQuiet
namespace Go.Proofs.YtdfnfmanpdafpaaDoor
open Go.RowKit Go.Shelf

def nmSet : List UInt8 := [97, 98, 99, 100, 101, 102, 103, 104, 105, 106, 107, 108, 109, 110, 111, 112, 113, 114, 115, 116, 117, 118, 119, 120, 121, 122, 48, 49, 50, 51, 52, 53, 54, 55, 56, 57, 45, 46]
theorem nmB_set (c : UInt8) : nmSet.contains c = nmB c := by
  have h : ∀ k : Fin 256, nmSet.contains (UInt8.ofNat k.val) = nmB (UInt8.ofNat k.val) := by decide +kernel
  have := h ⟨c.toNat, c.toNat_lt⟩
  simpa using this
theorem dropWhile_nil {α : Type} (p : α → Bool) : ∀ l : List α, l.dropWhile p = [] ↔ l.all p = true
  | [] => by simp
  | x :: l => by
    rw [List.dropWhile_cons, List.all_cons]
    cases hp : p x with
    | true => simp only [if_true, Bool.true_and]; exact dropWhile_nil p l
    | false => simp
theorem trimS_nil (l cs : List UInt8) : Lib.trimS l cs = [] ↔ l.all (cs.contains ·) = true := by
  unfold Lib.trimS Lib.trimLeftS Lib.trimRightS
  rw [dropWhile_nil, List.all_reverse]
  constructor
  · intro h
    have h2 : (l.reverse.dropWhile (cs.contains ·)).all (cs.contains ·) = true := h
    cases hd : l.reverse.dropWhile (cs.contains ·) with
    | nil => rw [← List.all_reverse]; exact (dropWhile_nil _ _).1 hd
    | cons x r =>
      rw [hd, List.all_cons, Bool.and_eq_true] at h2
      have := List.head_dropWhile_not (cs.contains ·) (l := l.reverse) (by rw [hd]; simp)
      simp only [hd, List.head_cons] at this
      rw [h2.1] at this; cases this
  · intro h
    have : l.reverse.dropWhile (cs.contains ·) = [] := (dropWhile_nil _ _).2 (by rw [List.all_reverse]; exact h)
    rw [this]; rfl
theorem strOf_sizeD (l : List UInt8) : (strOf l).size = l.length := by rw [← ba_len]; rfl
theorem trim_may (s : List UInt8) (w : World) (hs : s.length ≤ 32) :
    Calls Tryd.prog 42 #[.string (strOf s), .string ⟨#[97, 98, 99, 100, 101, 102, 103, 104, 105, 106, 107, 108, 109, 110, 111, 112, 113, 114, 115, 116, 117, 118, 119, 120, 121, 122, 48, 49, 50, 51, 52, 53, 54, 55, 56, 57, 45, 46]⟩] w fun e w' => e = .returned (.string (strOf (Lib.trimS s nmSet))) ∧ Ext w w' :=
  (Any.strings_Trim_laid Tryd.lays160 (by kernel_rfl) (strOf s) ⟨#[97, 98, 99, 100, 101, 102, 103, 104, 105, 106, 107, 108, 109, 110, 111, 112, 113, 114, 115, 116, 117, 118, 119, 120, 121, 122, 48, 49, 50, 51, 52, 53, 54, 55, 56, 57, 45, 46]⟩ w (by rw [strOf_sizeD]; omega) (by decide) (ascii_of_all (by decide))).mono fun _ _ h => h
set_option maxRecDepth 100000 in
set_option maxHeartbeats 4000000 in
theorem may_any (w : World) (n : List UInt8) : Calls Tryd.prog 28 #[.string (strOf n)] w fun e w' => e = .returned (.bool (mayN n)) ∧ Ext w w' := by
  have hsz := strOf_sizeD n
  by_cases h0 : n.length < 1
  · have hm : mayN n = false := by unfold mayN; rw [decide_eq_false (by omega : ¬ 1 ≤ n.length)]; rfl
    rw [hm]
    have d1 : decide (((strOf n).size : Int) ≥ 1) = false := decide_eq_false (by omega)
    have HS := Lib.hid hsz
    clear hsz h0 hm
    go_enter Tryd.func28, Tryd.ntmps28
    go_wp2_with fail
    go_ret
    exact ⟨rfl, Ext.refl _⟩
  · have d1 : decide (((strOf n).size : Int) ≥ 1) = true := decide_eq_true (by omega)
    by_cases h1 : n.length ≤ 32
    · have d2 : decide (((strOf n).size : Int) ≤ 32) = true := decide_eq_true (by omega)
      have htr := trim_may n w h1
      have hm : mayN n = n.all nmB := by unfold mayN; rw [decide_eq_true (by omega : 1 ≤ n.length), decide_eq_true h1]; rfl
      have he : n.all nmB = (Lib.trimS n nmSet).isEmpty := by
        have e1 : n.all nmB = n.all (nmSet.contains ·) := by congr 1; funext c; exact (nmB_set c).symm
        rw [e1, Bool.eq_iff_iff, ← trimS_nil, List.isEmpty_iff]
      have HM : Hid (mayN n = (Lib.trimS n nmSet).isEmpty) := hm.trans he
      have HT := Lib.hid htr
      have HS := Lib.hid hsz
      clear htr hm he hsz h0 h1
      go_enter Tryd.func28, Tryd.ntmps28
      go_wp2_with ((with_reducible refine HT.out.mono ?_); rintro e w5 ⟨rfl, hx⟩; have HX := Lib.hid hx; clear hx)
      go_ret
      exact ⟨by rw [HM.out]; rfl, HX.out⟩
    · have d2 : decide (((strOf n).size : Int) ≤ 32) = false := decide_eq_false (by omega)
      have hm : mayN n = false := by unfold mayN; rw [decide_eq_false h1, Bool.and_false]; rfl
      rw [hm]
      have HS := Lib.hid hsz
      clear hsz h0 hm h1
      go_enter Tryd.func28, Tryd.ntmps28
      go_wp2_with fail
      go_ret
      exact ⟨rfl, Ext.refl _⟩
end Go.Proofs.YtdfnfmanpdafpaaDoor
