/- Disk: names told by what a disk says; SameNames; a disk's shape as a text. -/
import Derived.Test.YtdfnfmanpdafpaaDoorD21
import Derived.Laws.Runes
import Derived.Laws.Concat
namespace Go.Proofs.YtdfnfmanpdafpaaDoor
open Go.RowKit

def namesS (S : DS) : List (List UInt8) := if S.off then [] else S.fs.map Fl.nm
theorem names_dk (w : World) (b : Nat) (F : List Nat) (S : DS) (hd : Dk w b F S) (ok : OkD S) :
    Calls Tryd.prog 9 #[.pointer (some ⟨b, 0, none⟩)] w fun e w' => ∃ v : Value, e = .returned v ∧ w'.ownsRow w.heap.size 9 1 v (namesS S).length ((namesS S).map stD) ∧ Ext w w' := by
  obtain ⟨bm, gs, hd, hgs, rfl⟩ := hd
  cases ho : S.off with
  | true =>
    have hn : namesS S = [] := by unfold namesS; rw [ho]; rfl
    rw [ho] at hd
    refine (namesG_off w b bm gs S.q S.fz hd).mono ?_
    rintro e w' ⟨rfl, rfl⟩
    exact ⟨_, rfl, by rw [hn]; exact own_none _ _ _ _, Ext.refl _⟩
  | false =>
    have hn : namesS S = gs.map FG.nm := by unfold namesS; rw [ho, ← hgs, List.map_map]; rfl
    rw [ho] at hd
    refine (namesG_on w b bm gs S.q S.fz hd (names_short hgs ok) (few_files hgs ok)).mono ?_
    rintro e w' ⟨v, rfl, h1, h2⟩
    refine ⟨v, rfl, ?_, h2⟩
    rw [hn, List.length_map, List.map_map]
    exact h1
set_option maxRecDepth 100000 in
set_option maxHeartbeats 8000000 in
theorem same_any (w : World) (v u : Value) (l m : List (List UInt8)) (hl : Row w 1 v l.length (l.map stD)) (hm : Row w 1 u m.length (m.map stD)) (hs : l.length ≤ 1000000) :
    Calls Tryd.prog 13 #[v, u] w fun e w' => e = .returned (.bool (decide (l = m))) ∧ Ext w w' := by
  obtain ⟨va, vc, rfl, hvc, hvm⟩ := Row.shape hl
  obtain ⟨ua, uc, rfl, huc, hum⟩ := Row.shape hm
  have HL := Lib.hid hl
  have HM := Lib.hid hm
  clear hl hm
  by_cases hlen : l.length = m.length
  · obtain ⟨n, hn⟩ : ∃ n, n = l.length := ⟨_, rfl⟩
    obtain ⟨res, hres⟩ : ∃ res : Bool, res = decide (l = m) := ⟨_, rfl⟩
    have HN := Lib.hid (And.intro hn hlen)
    rw [← hres]
    have HR := Lib.hid hres
    rw [← hlen, ← hn] at HM huc ⊢
    rw [← hn] at HL hvc hs
    clear hn hlen hres
    have hnn : ((n : Int) != (n : Int)) = false := by simp
    go_enter Tryd.func13, Tryd.ntmps13
    go_wp2_with fail
    go_loopw [5] (fun i wr => ∃ k : Nat, k ≤ n ∧ i = .int .i64 k ∧ Hid (l.take k = m.take k) ∧ Hid (Ext w wr)) (fun i _ => n - (intOf i).toNat)
    case atStart => exact ⟨0, Nat.zero_le _, rfl, by show _ = _; simp, Ext.refl _⟩
    case round =>
      obtain ⟨k, hk, rfl, HE, HX⟩ := hrel
      by_cases hlt : k < n
      · have hI : decide ((k : Int) < (n : Int)) = true := decide_eq_true (by omega)
        have hkN : (k : Int) < (n : Int) := by omega
        have hkl : k < l.length := by have := HN.out.1; omega
        have hkm : k < m.length := by have h1 := HN.out.1; have h2 := HN.out.2; omega
        obtain ⟨B, o, rfl⟩ := Row.base HL.out (by omega) (by decide)
        obtain ⟨B2, o2, rfl⟩ := Row.base HM.out (by omega) (by decide)
        have c1 := HX.out.cell (Row.cellAt HL.out (j := k) (u := .string (strOf l[k])) (by rw [List.getElem?_map, List.getElem?_eq_getElem hkl]; rfl) (by omega))
        have c2 := HX.out.cell (Row.cellAt HM.out (j := k) (u := .string (strOf m[k])) (by rw [List.getElem?_map, List.getElem?_eq_getElem hkm]; rfl) (by omega))
        have t1 : l.take (k + 1) = l.take k ++ [l[k]] := List.take_succ_eq_append_getElem hkl
        have t2 : m.take (k + 1) = m.take k ++ [m[k]] := List.take_succ_eq_append_getElem hkm
        have T := Lib.hid (And.intro t1 t2)
        clear t1 t2
        obtain ⟨df, hdf⟩ : ∃ df : Bool, df = (l[k] != m[k]) := ⟨_, rfl⟩
        have HDF := Lib.hid hdf
        have HNE : Hid (df = true → l ≠ m) := fun h e => by subst e; rw [hdf] at h; simp at h
        clear hdf
        generalize l[k] = x at *
        generalize m[k] = y at *
        clear hkl hkm
        go_upto_region 6 with fail
        refine wp_region_facts [Fact.eq (.slice (some ⟨B, o, none⟩) n vc),
            Fact.eq (.int .i64 k),
            Fact.eq (.pointer (some ⟨B, o + k, none⟩)),
            Fact.eq (.string (strOf x)),
            Fact.eq (.slice (some ⟨B2, o2, none⟩) n uc),
            Fact.eq (.int .i64 k),
            Fact.eq (.pointer (some ⟨B2, o2 + k, none⟩)),
            Fact.eq (.string (strOf y)),
            Fact.eq (.bool (x != y))]
          [[], [], [(0, 17), (1, 18)], [(2, 19)], [], [], [(4, 21), (5, 22)], [(6, 23)], [(3, 20), (7, 24)]]
          [(0, 17), (1, 18), (2, 19), (3, 20), (4, 21), (5, 22), (6, 23), (7, 24), (8, 25)] (by kernel_rfl) (by kernel_rfl) ?_ ?_
        · refine ⟨?_, ?_, ?_, ?_, ?_, ?_, ?_, ?_, ?_, trivial⟩
          · intro w1 hx1; change wpList _ _ _ _ _ _; exact ob_move rfl rfl rfl rfl rfl
          · intro w1 hx1; change wpList _ _ _ _ _ _; exact ob_move rfl rfl rfl rfl rfl
          · intro w1 hx1; rintro _ rfl; rintro _ rfl; change wpList _ _ _ _ _ _; go_wp2_with fail; exact ⟨rfl, Ext.refl _, rfl, rfl⟩
          · intro w1 hx1; rintro _ rfl; change wpList _ _ _ _ _ _; have m0 := hx1.cell c1; go_wp2_with fail; exact ⟨rfl, Ext.refl _, rfl, rfl⟩
          · intro w1 hx1; change wpList _ _ _ _ _ _; exact ob_move rfl rfl rfl rfl rfl
          · intro w1 hx1; change wpList _ _ _ _ _ _; exact ob_move rfl rfl rfl rfl rfl
          · intro w1 hx1; rintro _ rfl; rintro _ rfl; change wpList _ _ _ _ _ _; go_wp2_with fail; exact ⟨rfl, Ext.refl _, rfl, rfl⟩
          · intro w1 hx1; rintro _ rfl; change wpList _ _ _ _ _ _; have m0 := hx1.cell c2; go_wp2_with fail; exact ⟨rfl, Ext.refl _, rfl, rfl⟩
          · intro w1 hx1; rintro _ rfl; rintro _ rfl; change wpList _ _ _ _ _ _; go_wp2_with fail; exact ⟨rfl, Ext.refl _, rfl, rfl⟩
        · intro w1 hx1; rintro _ rfl; rintro _ rfl; rintro _ rfl; rintro _ rfl; rintro _ rfl; rintro _ rfl; rintro _ rfl; rintro _ rfl; rintro _ rfl; refine depsThen_nil ?_; dsimp only; simp only [Act.put, List.setIfInBounds_toArray, List.set_cons_zero, List.set_cons_succ]
          have HX1 := Lib.hid (HX.out.trans hx1)
          clear hx1 c1 c2
          rw [← HDF.out]
          cases df with
          | true =>
            have hres : res = false := by rw [HR.out]; exact decide_eq_false (HNE.out rfl)
            subst hres
            go_wp2_with fail
            exact bodyPost_ret (v := .bool false) (by simp [results, Tryd.results13, go_sem]) rfl ⟨rfl, HX1.out⟩
          | false =>
            have he : x = y := by have := HDF.out; simpa using this
            have HE2 : Hid (l.take (k + 1) = m.take (k + 1)) := by show _ = _; rw [T.out.1, T.out.2, HE.out, he]
            clear he
            go_wp2_with fail
            go_roundw
            case rel => exact ⟨k + 1, hlt, by go_num, HE2.out, HX1.out⟩
            case measure => simp [intOf]; omega
      · obtain rfl : k = n := by omega
        have hI : decide ((k : Int) < (k : Int)) = false := decide_eq_false (by omega)
        have hres : res = true := by
          rw [HR.out]
          refine decide_eq_true ?_
          have h1 := HE.out
          rw [List.take_of_length_le (by rw [HN.out.1]; exact Nat.le_refl _), List.take_of_length_le (by rw [HN.out.1, HN.out.2]; exact Nat.le_refl _)] at h1
          exact h1
        subst hres
        go_wp2_with fail
        exact bodyPost_ret (v := .bool true) (by simp [results, Tryd.results13, go_sem]) rfl ⟨rfl, HX.out⟩
  · have hne : ((l.length : Int) != (m.length : Int)) = true := by rw [bne_iff_ne]; omega
    have hr : decide (l = m) = false := decide_eq_false fun e => hlen (by rw [e])
    rw [hr]
    clear hr hlen
    go_enter Tryd.func13, Tryd.ntmps13
    go_wp2_with fail
    exact bodyPost_ret (v := .bool false) (by simp [results, Tryd.results13, go_sem]) rfl ⟨rfl, Ext.refl _⟩
end Go.Proofs.YtdfnfmanpdafpaaDoor
