/- slices.Compact at values.
slices.Sort at strings.
slices.Compact at strings.
strings.Compare, strings.HasPrefix at this dump, laid by the kit's lay-shelf and lay-plain.
Values compared: value.Compare, the reference's Compare; what a value may be.
Covering and overlapping, plainly: normal forms, fewer constraints, both together; what no event matches. No program is in sight. -/
import Derived.WalkKit
import Derived.Lib.Hide
import Derived.Deep.CutBlock
import Derived.Deep.QuietTactic
import Derived.BigQuiet
import Derived.Deep.MidRow
import Derived.Outline
import Derived.Shelf.Small.Strs
import Derived.Shelf.Strings.Prefix
import Derived.Test.YtcgflkfbjnpdiaaGreatProg
import Derived.Test.YtcgflkfbjnpdiaaGreatRows
import Derived.Deep.RegionWith
import Derived.Deep.RegionLaw
import Derived.Deep.DeepCutAuto
import Derived.WalkSpells
import Derived.WalkLawsBesides
import Derived.Test.YtcgflkfbjnpdiaaGreatP3
import Derived.Test.YtcgflkfbjnpdiaaGreatP2
namespace Go.Proofs.YtcgflkfbjnpdiaaGreat
open Go.RowKit Go.Sort

theorem eqV (x y : V) : decide (x = y) = ((x.k == y.k) && ((x.n == y.n) && ((x.s == y.s) && (x.b == y.b)))) := by
  obtain ⟨ak, an, as1, ab⟩ := x
  obtain ⟨bk, bn, bs, bb⟩ := y
  rw [Bool.eq_iff_iff]
  simp
theorem own_row {w : World} {base size n : Nat} {e : TypeId} {v : Value} {xs : List Value} (h : w.ownsRow base e size v n xs) : Row w size v n xs := Row.of_own h
theorem own_drewN {w : World} {base size n : Nat} {e : TypeId} {v : Value} {xs : List Value} (q : Nat) (h : w.ownsRow base e size v n xs) : (w.drewN q).ownsRow base e size v n xs := h
theorem grown_drewN {w w' : World} {row : Option Nat} (q : Nat) (h : w.grownBy w' row) : w.grownBy (w'.drewN q) row := ⟨h.os, h.tape, h.output, h.size, h.block⟩

set_option maxRecDepth 100000 in
set_option maxHeartbeats 4000000 in
theorem compactV_any (w : World) (base : Nat) (v : Value) (l : List V) (ho : w.ownsRow base 34 4 v l.length (l.flatMap vC)) (hl : l.length ≤ 1000000) :
    Calls Tryz.prog 23 #[v] w fun e w' => ∃ v', e = .returned v' ∧ w'.ownsRow base 34 4 v' (compE l).length ((compE l).flatMap vC) ∧ w.grownBy w' v.ownBlock ∧ v'.ownBlock = v.ownBlock := by
  by_cases h2 : l.length < 2
  · have hce : compE l = l := by
      match l, h2 with
      | [], _ => exact compE_nil
      | [x], _ => exact compE_one x
    rw [hce]
    obtain ⟨a, cap, rfl, hc, hm⟩ := Row.shape (own_row ho)
    have hd : decide ((l.length : Int) < 2) = true := decide_eq_true (by omega)
    have HO := Lib.hid ho
    clear ho hce
    generalize l.length = n at *
    go_enter Tryz.func23, Tryz.ntmps23
    go_wp2
    go_ret
    exact ⟨_, rfl, HO.out, ⟨rfl, rfl, rfl, Nat.le_refl _, fun _ _ _ => rfl⟩, rfl⟩
  · have hne : v ≠ .slice none 0 0 := by
      rintro rfl
      obtain ⟨_, _, e1, _, _⟩ := Row.shape (own_row ho)
      simp only [Value.slice.injEq] at e1
      omega
    rcases ho.2 with ⟨e0, _⟩ | ⟨g, cap, cur, rfl, hb, hg, hn, hm, hs, ht⟩
    · exact absurd e0 hne
    clear hne cur hg hs ht
    have hrow : ∀ wr : World, wr.ownsRow base 34 4 (.slice (some ⟨g, 0, none⟩) l.length cap) l.length (l.flatMap vC) → SetR wr (.slice (some ⟨g, 0, none⟩) l.length cap) l := fun wr h => own_row h
    have hd : decide ((l.length : Int) < 2) = false := decide_eq_false (by omega)
    have HO := Lib.hid ho
    clear ho
    have HROW := Lib.hid hrow
    clear hrow
    generalize hN : l.length = n at *
    have HN := Lib.hid hN
    clear hN
    go_enter Tryz.func23, Tryz.ntmps23
    go_wp2_with fail
    go_loopw [3] (fun i wr => ∃ k : Nat, 1 ≤ k ∧ k ≤ n ∧ i = .int .i64 k ∧ Hid (compE (l.take k) = l.take k) ∧ Hid (wr.ownsRow base 34 4 (.slice (some ⟨g, 0, none⟩) n cap) n (l.flatMap vC)) ∧ Hid (w.grownBy wr (some g))) (fun i _ => n - (intOf i).toNat)
    case atStart =>
      refine ⟨1, Nat.le_refl _, by omega, rfl, ?_, HO, ⟨rfl, rfl, rfl, Nat.le_refl _, fun _ _ _ => rfl⟩⟩
      show compE (l.take 1) = l.take 1
      match l, HN.out with
      | [], _ => exact compE_nil
      | x :: r, _ => exact compE_one x
    case round =>
      obtain ⟨k, hk1, hk, rfl, hc, hown, hgr⟩ := hrel
      by_cases hlt : k < n
      · have hI : decide ((k : Int) < (n : Int)) = true := decide_eq_true (by omega)
        have k1 : k < l.length := by rw [HN.out]; exact hlt
        have k0 : k - 1 < l.length := by omega
        have hset : SetR wr (.slice (some ⟨g, 0, none⟩) n cap) l := by have := HROW.out wr hown.out; exact this
        obtain ⟨_, _, e1, f0, f1, f2, f3⟩ := SetR.at hset k1
        cases e1
        obtain ⟨_, _, e1, g0, g1, g2, g3⟩ := SetR.at hset k0
        cases e1
        simp only [Nat.zero_add] at f0 f1 f2 f3 g0 g1 g2 g3
        have hcm : ((k : Int) - 1) = ((k - 1 : Nat) : Int) := by omega
        obtain ⟨E, hE⟩ : ∃ E : Bool, E = decide (l[k] = l[k - 1]) := ⟨_, rfl⟩
        have HE := Lib.hid hE
        clear hE
        go_upto_region 6 with fail
        go_cut [25] from 16 to 25 (fun v25 wx => v25 = .bool E ∧ ∃ q, wx = wr.drewN q)
        case first =>
          have HE2 : Hid (E = _) := HE.out.trans (eqV _ _)
          clear HE
          generalize l[k] = x at *
          generalize l[k - 1] = y at *
          clear hc hown hgr hset HO HROW HN
          have hi0 : (0 : Int) ≤ (k : Int) - 1 := by omega
          have hi1 : (k : Int) - 1 < (n : Int) := by omega
          have hi2 : ((k : Int) - 1).toNat = k - 1 := by omega
          cases b1 : (x.k == y.k)
          · go_quiet (fail)
            go_wp2_with fail
            go_meet
            exact ⟨by rw [HE2.out, b1]; rfl, _, rfl⟩
          · cases b2 : (x.n == y.n)
            · go_quiet (fail)
              go_wp2_with fail
              go_meet
              exact ⟨by rw [HE2.out, b1, b2]; rfl, _, rfl⟩
            · cases b3 : (x.s == y.s)
              · go_quiet (fail)
                go_wp2_with fail
                go_meet
                exact ⟨by rw [HE2.out, b1, b2, b3]; rfl, _, rfl⟩
              · cases b4 : (x.b == y.b)
                · go_quiet (fail)
                  go_wp2_with fail
                  go_meet
                  exact ⟨by rw [HE2.out, b1, b2, b3, b4]; rfl, _, rfl⟩
                · go_quiet (fail)
                  go_wp2_with fail
                  go_meet
                  exact ⟨by rw [HE2.out, b1, b2, b3, b4]; rfl, _, rfl⟩
        case rest =>
          obtain ⟨rfl, q, rfl⟩ := hcut
          clear f0 f1 f2 f3 g0 g1 g2 g3
          obtain ⟨m, rfl⟩ : ∃ m, k = m + 1 := ⟨k - 1, by omega⟩
          have hct := compE_take (l := l) (n := m) k1
          cases E
          · have hne : l[m + 1] ≠ l[m] := of_decide_eq_false HE.out.symm
            have hc2 : Hid (compE (l.take (m + 1 + 1)) = l.take (m + 1 + 1)) := by
              show _ = _
              rw [hct, if_neg hne, hc.out, ← List.take_succ_eq_append_getElem k1]
            clear hct hne HE
            go_wp2_with fail
            go_roundw
            case rel => exact ⟨m + 2, by omega, by omega, by go_num, hc2, own_drewN q hown.out, grown_drewN q hgr.out⟩
            case measure => simp [intOf]; omega
          · have heq : l[m + 1] = l[m] := of_decide_eq_true HE.out.symm
            have hstart : Hid (CompInv l l (m + 1) (m + 1 + 1)) := CompInv.start k1 hc.out heq
            clear hct heq HE
            have hcapn : m + 1 < cap := by omega
            have hne : ¬ cap = m + 1 := by omega
            go_wp2_with fail
            obtain ⟨d, hd⟩ : ∃ d, d = n - (m + 1) := ⟨_, rfl⟩
            obtain ⟨ce, hce⟩ : ∃ ce, ce = cap - (m + 1) := ⟨_, rfl⟩
            rw [← hd, ← hce]
            have hd1 : m + 1 + d = n := by omega
            have HD1 := Lib.hid hd1
            have hmn : m + 1 + d ≤ n := by omega
            have hd2 : d ≤ 1000000 := by omega
            have hd3 : d ≤ ce := by omega
            have hq0 : m + 1 ≤ n := by omega
            clear hd hce hd1
            go_loopw [3, 5] (fun kk jj wr2 => ∃ (q j : Nat) (r : List V), 1 ≤ j ∧ j ≤ d ∧ q + 1 ≤ m + 1 + j ∧ kk = .int .i64 q ∧ jj = .int .i64 j ∧ Hid (CompInv l r q (m + 1 + j)) ∧ Hid (wr2.ownsRow base 34 4 (.slice (some ⟨g, 0, none⟩) n cap) n (r.flatMap vC)) ∧ Hid (w.grownBy wr2 (some g))) (fun _ jj _ => d - (intOf jj).toNat)
            case atStart => exact ⟨m + 1, 1, l, Nat.le_refl _, by have := HD1.out; omega, by omega, rfl, rfl, hstart, own_drewN q hown.out, grown_drewN q hgr.out⟩
            case round =>
              clear hstart hown hgr hc hset hk1 hk
              obtain ⟨q, j, r, hj1, hj, hq, rfl, rfl, hinv, hown, hgr⟩ := hrel
              by_cases hlt2 : j < d
              · have hI2 : decide ((j : Int) < (d : Int)) = true := decide_eq_true (by omega)
                have hil : m + 1 + j < l.length := by rw [HN.out]; have := HD1.out; omega
                have k0 : m + 1 + j - 1 < l.length := by omega
                obtain ⟨r1, r2, er1, er2⟩ := hinv.out.at hil
                have hlr : r.length = n := by rw [hinv.out.len, HN.out]
                have hset2 : SetR wr (.slice (some ⟨g, 0, none⟩) n cap) r := by unfold SetR; rw [hlr]; exact own_row hown.out
                obtain ⟨_, _, e1, f0, f1, f2, f3⟩ := SetR.at hset2 r1
                cases e1
                obtain ⟨_, _, e1, g0, g1, g2, g3⟩ := SetR.at hset2 r2
                cases e1
                rw [er1] at f0 f1 f2 f3
                rw [er2] at g0 g1 g2 g3
                have ea : (m + 1 + j) * 4 = (m + 1) * 4 + j * 4 := by omega
                have eb : (m + 1 + j - 1) * 4 = (m + 1) * 4 + (j - 1) * 4 := by omega
                simp only [Nat.zero_add, ea] at f0 f1 f2 f3
                simp only [Nat.zero_add, eb] at g0 g1 g2 g3
                obtain ⟨E, hE⟩ : ∃ E : Bool, E = decide (l[m + 1 + j] = l[m + 1 + j - 1]'k0) := ⟨_, rfl⟩
                have HE := Lib.hid hE
                clear hE ea eb er1 er2 r1 r2 hset2
                have hsame := fun h => hinv.out.same hil h
                have hnext := fun h => hinv.out.next hil h
                have HS := Lib.hid hsame
                have HX := Lib.hid hnext
                clear hsame hnext
                generalize l[m + 1 + j] = x at *
                generalize l[m + 1 + j - 1]'k0 = y at *
                have hlr2 : n ≤ r.length := by omega
                clear hinv hlr
                have hi0 : (0 : Int) ≤ (j : Int) - 1 := by omega
                have hi1 : (j : Int) - 1 < (d : Int) := by omega
                have hi2 : ((j : Int) - 1).toNat = j - 1 := by omega
                go_upto_region 11 with fail
                go_cut [44] from 35 to 44 (fun v44 wx => v44 = .bool (!E) ∧ ∃ p, wx = wr.drewN p)
                case first =>
                  have HE2 : Hid (E = _) := HE.out.trans (eqV _ _)
                  clear HE HS HX hown hgr HO HROW HN HD1
                  cases b1 : (x.k == y.k)
                  · go_quiet (fail)
                    go_wp2_with fail
                    go_meet
                    exact ⟨by rw [HE2.out, b1]; rfl, _, rfl⟩
                  · cases b2 : (x.n == y.n)
                    · go_quiet (fail)
                      go_wp2_with fail
                      go_meet
                      exact ⟨by rw [HE2.out, b1, b2]; rfl, _, rfl⟩
                    · cases b3 : (x.s == y.s)
                      · go_quiet (fail)
                        go_wp2_with fail
                        go_meet
                        exact ⟨by rw [HE2.out, b1, b2, b3]; rfl, _, rfl⟩
                      · cases b4 : (x.b == y.b)
                        · go_quiet (fail)
                          go_wp2_with fail
                          go_meet
                          exact ⟨by rw [HE2.out, b1, b2, b3, b4]; rfl, _, rfl⟩
                        · go_quiet (fail)
                          go_wp2_with fail
                          go_meet
                          exact ⟨by rw [HE2.out, b1, b2, b3, b4]; rfl, _, rfl⟩
                case rest =>
                  obtain ⟨rfl, p, rfl⟩ := hcut
                  clear g0 g1 g2 g3 hi0 hi1 hi2
                  cases E
                  · have hxy : x ≠ y := of_decide_eq_false HE.out.symm
                    have hinv2 := Lib.hid (HX.out hxy)
                    clear hxy HS HX HE
                    have hql : q < r.length := by omega
                    have hth := own_there (own_drewN p hown.out) q 4 (by omega)
                    have hset3 := own_set vC vC_len (own_drewN p hown.out) q hql x
                    obtain ⟨wz, hwz⟩ : ∃ wz, (wr.drewN p).setCells g (q * 4) (vC x) = wz := ⟨_, rfl⟩
                    rw [hwz] at hset3
                    have HWZ := Lib.hid hwz
                    clear hwz
                    have HS3 := Lib.hid hset3.1
                    have HG3 := Lib.hid hset3.2
                    clear hset3
                    have hxp : Ext wr (wr.drewN p) := (Ext.refl wr).drewN p
                    have f0 := hxp.cell f0
                    have f1 := hxp.cell f1
                    have f2 := hxp.cell f2
                    have f3 := hxp.cell f3
                    have hqn : q < n := by omega
                    go_wp2_with (refine wpList_store_mid rfl 34 (.tmp 51) (.tmp 50) rfl g (q * 4) #[.int .i64 x.k, .int .i64 x.n, .string (strOf x.s), .bool x.b] rfl rfl hth size28 (by simp [Value.oneCell']) ?_; rw [show (wr.drewN p).setCells g (q * 4) (#[.int .i64 x.k, .int .i64 x.n, .string (strOf x.s), .bool x.b] : Array Value).toList = wz from HWZ.out])
                    go_roundw
                    case rel => (repeat apply Exists.intro); refine ⟨?_, rfl⟩; exact ⟨q + 1, j + 1, r.set q x, by omega, hlt2, by omega, by go_num, by go_num, hinv2, HS3.out, (grown_drewN p hgr.out).trans HG3.out⟩
                    case measure => simp [intOf]; omega
                  · have hxy : x = y := of_decide_eq_true HE.out.symm
                    have hinv2 := Lib.hid (HS.out hxy)
                    clear hxy HS HX HE f0 f1 f2 f3
                    go_wp2_with fail
                    go_roundw
                    case rel => exact ⟨q, j + 1, r, by omega, hlt2, by omega, rfl, by go_num, hinv2, own_drewN p hown.out, grown_drewN p hgr.out⟩
                    case measure => simp [intOf]; omega
              · obtain rfl : j = d := by omega
                have hI2 : decide ((j : Int) < (j : Int)) = false := decide_eq_false (by omega)
                have hdone := hinv.out
                rw [HD1.out, ← HN.out] at hdone
                obtain ⟨ht, hlen⟩ := hdone.done
                have hqn : q < n := by omega
                have hqc : ¬ cap = q := by omega
                have hqc2 : q ≤ cap := by omega
                have hcl := run_clear_tail hown.out 35 (.agg #[.int .i64 0, .int .i64 0, .string ⟨#[]⟩, .bool false]) rfl (by simp [Value.cells, Value.oneCell']) Tryz.underlying35 zero28 q (cap - q) hqn
                have hfin := own_clear_tail hown.out (Nat.le_of_lt hqn) (.agg #[.int .i64 0, .int .i64 0, .string ⟨#[]⟩, .bool false]) rfl
                have hres : Hid ((r.flatMap vC).take (q * 4) = (compE l).flatMap vC) := by show _ = _; rw [flat_take vC 4 vC_len, ht]
                have HL := Lib.hid hlen
                have HF := Lib.hid hfin
                generalize wr.setCells g (q * 4) (Builtin.zeroCells (Value.agg #[.int .i64 0, .int .i64 0, .string ⟨#[]⟩, .bool false]).cells (n - q)).toList = wz at *
                clear ht hlen hfin hinv hdone
                go_wp2_with fail
                go_ret
                refine ⟨_, rfl, ?_, hgr.out.trans HF.out.2, rfl⟩
                rw [HL.out, ← hres.out]
                exact HF.out.1
      · obtain rfl : k = n := by omega
        have hI : decide ((k : Int) < (k : Int)) = false := decide_eq_false (by omega)
        have hce : Hid (compE l = l) := by
          have h := hc.out
          rw [List.take_of_length_le (by rw [HN.out]; exact Nat.le_refl _)] at h
          exact h
        go_wp2_with fail
        go_ret
        refine ⟨_, rfl, ?_, hgr.out, rfl⟩
        rw [hce.out, HN.out]
        exact hown.out
end Go.Proofs.YtcgflkfbjnpdiaaGreat

namespace Go.Proofs.YtcgflkfbjnpdiaaGreat
open Go.RowKit Go.Sort

theorem lt_cmp (x y : List UInt8) : x < y ↔ Lib.compareBytes x y < 0 := by
  induction x generalizing y with
  | nil => cases y <;> simp [Lib.compareBytes]
  | cons a x ih =>
    cases y with
    | nil => simp [Lib.compareBytes]
    | cons b y =>
      simp only [Lib.compareBytes, List.cons_lt_cons_iff]
      by_cases h1 : a < b
      · simp [h1]
      · by_cases h2 : b < a
        · have hne : ¬ a = b := by intro e; rw [e] at h2; exact absurd h2 (UInt8.lt_irrefl b)
          simp [h1, h2, hne]
        · have he : a = b := UInt8.le_antisymm (UInt8.not_lt.1 h2) (UInt8.not_lt.1 h1)
          subst he
          simp [ih y]
theorem le_cmp (x y : List UInt8) : x ≤ y ↔ Lib.compareBytes x y ≤ 0 := by
  have h := lt_cmp y x
  have ha := wo_bytes.anti x y
  rw [← List.not_lt, h]
  omega
def stC (s : List UInt8) : Value := .string (strOf s)
theorem stC_enc : encStr = stC := rfl
theorem sort_list (l : List (List UInt8)) : (l.mergeSort fun x y => decide (x ≤ y)).Perm l ∧ (l.mergeSort fun x y => decide (x ≤ y)).Pairwise fun a b => Lib.compareBytes a b ≤ 0 := by
  refine ⟨List.mergeSort_perm _ _, ?_⟩
  have h := List.pairwise_mergeSort (le := fun x y : List UInt8 => decide (x ≤ y)) (fun a b c h1 h2 => by
    simp only [decide_eq_true_eq, le_cmp] at *
    exact wo_bytes.trans _ _ _ h1 h2) (fun a b => by
    have := wo_bytes.anti a b
    simp only [Bool.or_eq_true, decide_eq_true_eq, le_cmp]
    omega) l
  exact h.imp fun h => by simpa [le_cmp] using h
theorem putRow_map (w : World) (g : Nat) (l : List (List UInt8)) : putRow stC w g 0 l.toArray = putRow id w g 0 (l.map stC).toArray := by
  unfold putRow
  congr 1
  funext c
  unfold putCells
  congr 1
  funext k x
  simp only [List.size_toArray, List.length_map]
  split
  · rename_i h
    have hk : k - 0 < l.length := by omega
    rw [getElem!_pos _ _ (by simpa using hk), getElem!_pos _ _ (by simpa using hk)]
    simp
  · rfl
theorem holds_map {w : World} {g : Nat} {l : List (List UInt8)} (h : Holds id w g 0 (l.map stC).toArray) : Holds stC w g 0 l.toArray := by
  intro j hj
  have hj' : j < l.length := by simpa using hj
  have := h j (by simpa using hj')
  rw [getElem!_pos _ _ (by simpa using hj')] at this ⊢
  simpa using this

theorem sortSt_any (w : World) (base : Nat) (v : Value) (l : List (List UInt8)) (ho : w.ownsRow base 9 1 v l.length (l.map stC)) (hl : l.length ≤ 1000000) :
    Calls Tryz.prog 77 #[v] w fun e w' => e = .returned (.tuple #[]) ∧ ∃ l' : List (List UInt8), l'.Perm l ∧ (l'.Pairwise fun a b => Lib.compareBytes a b ≤ 0) ∧ w'.ownsRow base 9 1 v l.length (l'.map stC) ∧ w.grownBy w' v.ownBlock := by
  have ho' := ho
  rcases ho.2 with ⟨rfl, h0⟩ | ⟨g, cap, cur, rfl, hb, hg, hn, hm, hs, ht⟩
  · have hz : l = [] := List.length_eq_zero_iff.1 h0
    subst hz
    refine (Tryz.slices_Sort_string_none none 0 w).mono ?_
    rintro e w' ⟨rfl, rfl⟩
    exact ⟨rfl, [], List.Perm.refl _, List.Pairwise.nil, ho, ⟨rfl, rfl, rfl, Nat.le_refl _, fun _ _ _ => rfl⟩⟩
  · have hlt : g < w.heap.size := (Array.getElem?_eq_some_iff.1 hg).1
    obtain ⟨_, _, _, _, _, _, _, hH⟩ := own_holds ho
    refine (Tryz.slices_Sort_string g 0 cap l w (holds_map hH) hlt (by omega)).mono ?_
    rintro e w' ⟨rfl, n, os, rfl⟩
    obtain ⟨p1, p2⟩ := sort_list l
    refine ⟨rfl, _, p1, p2, ?_, ?_⟩
    · rw [stC_enc, putRow_map]
      exact own_put ho (by simp [p1.length_eq])
    · rw [stC_enc, putRow_map]
      exact grownBy_row _
end Go.Proofs.YtcgflkfbjnpdiaaGreat

namespace Go.Proofs.YtcgflkfbjnpdiaaGreat
open Go.RowKit Go.Sort

theorem zero9 : ∀ w, (zeroValue 9).run Tryz.prog w = .ok (.string ⟨#[]⟩) w := fun _ => by kernel_rfl
theorem st_flat (l : List (List UInt8)) : l.map stC = l.flatMap fun s => [stC s] := by
  induction l with
  | nil => rfl
  | cons a l ih => simp [ih]
theorem st_at {W : World} {b g n cap : Nat} {l : List (List UInt8)} (h : W.ownsRow b 9 1 (.slice (some ⟨g, 0, none⟩) n cap) n (l.map stC)) {k : Nat} (hk : k < l.length) (hn : k < n) : W.cell? ⟨g, k, none⟩ = some (.string (strOf l[k])) := by
  have h1 := Row.cellAt (Row.of_own h) (j := k) (u := stC l[k]) (by rw [List.getElem?_map, List.getElem?_eq_getElem hk]; rfl) (by omega)
  rw [Nat.zero_add] at h1
  exact h1

set_option maxRecDepth 100000 in
set_option maxHeartbeats 4000000 in
theorem compactSt_any (w : World) (base : Nat) (v : Value) (l : List (List UInt8)) (ho : w.ownsRow base 9 1 v l.length (l.map stC)) (hl : l.length ≤ 1000000) :
    Calls Tryz.prog 78 #[v] w fun e w' => ∃ v', e = .returned v' ∧ w'.ownsRow base 9 1 v' (compE l).length ((compE l).map stC) ∧ w.grownBy w' v.ownBlock ∧ v'.ownBlock = v.ownBlock := by
  by_cases h2 : l.length < 2
  · have hce : compE l = l := by
      match l, h2 with
      | [], _ => exact compE_nil
      | [x], _ => exact compE_one x
    rw [hce]
    obtain ⟨a, cap, rfl, hc, hm⟩ := Row.shape (own_row ho)
    have hd : decide ((l.length : Int) < 2) = true := decide_eq_true (by omega)
    have HO := Lib.hid ho
    clear ho hce
    generalize l.length = n at *
    go_enter Tryz.func78, Tryz.ntmps78
    go_wp2
    go_ret
    exact ⟨_, rfl, HO.out, ⟨rfl, rfl, rfl, Nat.le_refl _, fun _ _ _ => rfl⟩, rfl⟩
  · have hne : v ≠ .slice none 0 0 := by
      rintro rfl
      obtain ⟨_, _, e1, _, _⟩ := Row.shape (own_row ho)
      simp only [Value.slice.injEq] at e1
      omega
    rcases ho.2 with ⟨e0, _⟩ | ⟨g, cap, cur, rfl, hb, hg, hn, hm, hs, ht⟩
    · exact absurd e0 hne
    clear hne cur hg hs ht
    have hd : decide ((l.length : Int) < 2) = false := decide_eq_false (by omega)
    have HO := Lib.hid ho
    clear ho
    generalize hN : l.length = n at *
    have HN := Lib.hid hN
    clear hN
    go_enter Tryz.func78, Tryz.ntmps78
    go_wp2_with fail
    go_loopw [3] (fun i wr => ∃ k : Nat, 1 ≤ k ∧ k ≤ n ∧ i = .int .i64 k ∧ Hid (compE (l.take k) = l.take k) ∧ Hid (wr.ownsRow base 9 1 (.slice (some ⟨g, 0, none⟩) n cap) n (l.map stC)) ∧ Hid (w.grownBy wr (some g))) (fun i _ => n - (intOf i).toNat)
    case atStart =>
      refine ⟨1, Nat.le_refl _, by omega, rfl, ?_, HO, ⟨rfl, rfl, rfl, Nat.le_refl _, fun _ _ _ => rfl⟩⟩
      show compE (l.take 1) = l.take 1
      match l, HN.out with
      | [], _ => exact compE_nil
      | x :: r, _ => exact compE_one x
    case round =>
      obtain ⟨k, hk1, hk, rfl, hc, hown, hgr⟩ := hrel
      by_cases hlt : k < n
      · have hI : decide ((k : Int) < (n : Int)) = true := decide_eq_true (by omega)
        have k1 : k < l.length := by rw [HN.out]; exact hlt
        have k0 : k - 1 < l.length := by omega
        have f0 := st_at hown.out k1 hlt
        have g0 := st_at hown.out k0 (by omega)
        obtain ⟨E, hE⟩ : ∃ E : Bool, E = decide (l[k] = l[k - 1]) := ⟨_, rfl⟩
        have HE := Lib.hid hE
        clear hE
        have hi0 : (0 : Int) ≤ (k : Int) - 1 := by omega
        have hi1 : (k : Int) - 1 < (n : Int) := by omega
        have hi2 : ((k : Int) - 1).toNat = k - 1 := by omega
        go_upto_region 6 with fail
        go_cut [25] from 16 to 25 (fun v25 wx => v25 = .bool E ∧ ∃ q, wx = wr.drewN q)
        case first =>
          have HE2 : Hid (E = _) := HE.out
          clear HE
          generalize l[k] = x at *
          generalize l[k - 1] = y at *
          clear hc hown hgr HO HN
          by_cases hxy : x = y
          · have b1 : (x == y) = true := beq_iff_eq.2 hxy
            have he : E = true := by rw [HE2.out]; exact decide_eq_true hxy
            subst he
            clear hxy
            go_quiet (fail)
            go_wp2_with fail
            go_meet
            exact ⟨rfl, _, rfl⟩
          · have b1 : (x == y) = false := beq_eq_false_iff_ne.2 hxy
            have b2 : ¬ strOf x = strOf y := fun e => hxy (strOf_inj.1 e)
            have he : E = false := by rw [HE2.out]; exact decide_eq_false hxy
            subst he
            clear hxy
            go_quiet (fail)
            go_wp2_with fail
            go_meet
            exact ⟨rfl, _, rfl⟩
        case rest =>
          obtain ⟨rfl, q, rfl⟩ := hcut
          clear f0 g0 hi0 hi1 hi2
          obtain ⟨m, rfl⟩ : ∃ m, k = m + 1 := ⟨k - 1, by omega⟩
          have hct := compE_take (l := l) (n := m) k1
          cases E
          · have hne : l[m + 1] ≠ l[m] := of_decide_eq_false HE.out.symm
            have hc2 : Hid (compE (l.take (m + 1 + 1)) = l.take (m + 1 + 1)) := by
              show _ = _
              rw [hct, if_neg hne, hc.out, ← List.take_succ_eq_append_getElem k1]
            clear hct hne HE
            go_wp2_with fail
            go_roundw
            case rel => exact ⟨m + 2, by omega, by omega, by go_num, hc2, own_drewN q hown.out, grown_drewN q hgr.out⟩
            case measure => simp [intOf]; omega
          · have heq : l[m + 1] = l[m] := of_decide_eq_true HE.out.symm
            have hstart : Hid (CompInv l l (m + 1) (m + 1 + 1)) := CompInv.start k1 hc.out heq
            clear hct heq HE
            have hcapn : m + 1 < cap := by omega
            have hne : ¬ cap = m + 1 := by omega
            go_wp2_with fail
            obtain ⟨d, hd⟩ : ∃ d, d = n - (m + 1) := ⟨_, rfl⟩
            obtain ⟨ce, hce⟩ : ∃ ce, ce = cap - (m + 1) := ⟨_, rfl⟩
            rw [← hd, ← hce]
            have hd1 : m + 1 + d = n := by omega
            have HD1 := Lib.hid hd1
            have hmn : m + 1 + d ≤ n := by omega
            have hd2 : d ≤ 1000000 := by omega
            have hd3 : d ≤ ce := by omega
            have hq0 : m + 1 ≤ n := by omega
            clear hd hce hd1
            go_loopw [3, 5] (fun kk jj wr2 => ∃ (q j : Nat) (r : List (List UInt8)), 1 ≤ j ∧ j ≤ d ∧ q + 1 ≤ m + 1 + j ∧ kk = .int .i64 q ∧ jj = .int .i64 j ∧ Hid (CompInv l r q (m + 1 + j)) ∧ Hid (wr2.ownsRow base 9 1 (.slice (some ⟨g, 0, none⟩) n cap) n (r.map stC)) ∧ Hid (w.grownBy wr2 (some g))) (fun _ jj _ => d - (intOf jj).toNat)
            case atStart => exact ⟨m + 1, 1, l, Nat.le_refl _, by have := HD1.out; omega, by omega, rfl, rfl, hstart, own_drewN q hown.out, grown_drewN q hgr.out⟩
            case round =>
              clear hstart hown hgr hc hk1 hk
              obtain ⟨q, j, r, hj1, hj, hq, rfl, rfl, hinv, hown, hgr⟩ := hrel
              by_cases hlt2 : j < d
              · have hI2 : decide ((j : Int) < (d : Int)) = true := decide_eq_true (by omega)
                have hil : m + 1 + j < l.length := by rw [HN.out]; have := HD1.out; omega
                have k0 : m + 1 + j - 1 < l.length := by omega
                obtain ⟨r1, r2, er1, er2⟩ := hinv.out.at hil
                have hlr : r.length = n := by rw [hinv.out.len, HN.out]
                have f0 := st_at hown.out r1 (by omega)
                have g0 := st_at hown.out r2 (by omega)
                have hql : q < r.length := by omega
                have hqc := st_at hown.out hql (by omega)
                rw [er1] at f0
                rw [er2] at g0
                have eb : m + 1 + j - 1 = m + 1 + (j - 1) := by omega
                obtain ⟨E, hE⟩ : ∃ E : Bool, E = decide (l[m + 1 + j] = l[m + 1 + j - 1]'k0) := ⟨_, rfl⟩
                have HE := Lib.hid hE
                have hsame := fun h => hinv.out.same hil h
                have hnext := fun h => hinv.out.next hil h
                have HS := Lib.hid hsame
                have HX := Lib.hid hnext
                clear hsame hnext hE er1 er2 r1 r2
                generalize l[m + 1 + j] = x at *
                generalize l[m + 1 + j - 1]'k0 = y at *
                rw [eb] at g0
                have hlr2 : n ≤ r.length := by omega
                clear hinv hlr eb
                have hi0 : (0 : Int) ≤ (j : Int) - 1 := by omega
                have hi1 : (j : Int) - 1 < (d : Int) := by omega
                have hi2 : ((j : Int) - 1).toNat = j - 1 := by omega
                go_upto_region 11 with fail
                go_cut [44] from 35 to 44 (fun v44 wx => v44 = .bool (!E) ∧ ∃ p, wx = wr.drewN p)
                case first =>
                  have HE2 : Hid (E = _) := HE.out
                  clear HE HS HX hown hgr HO HN HD1 hqc
                  by_cases hxy : x = y
                  · have b1 : (x == y) = true := beq_iff_eq.2 hxy
                    have he : E = true := by rw [HE2.out]; exact decide_eq_true hxy
                    subst he
                    clear hxy
                    go_quiet (fail)
                    go_wp2_with fail
                    go_meet
                    exact ⟨rfl, _, rfl⟩
                  · have b1 : (x == y) = false := beq_eq_false_iff_ne.2 hxy
                    have b2 : ¬ strOf x = strOf y := fun e => hxy (strOf_inj.1 e)
                    have he : E = false := by rw [HE2.out]; exact decide_eq_false hxy
                    subst he
                    clear hxy
                    go_quiet (fail)
                    go_wp2_with fail
                    go_meet
                    exact ⟨rfl, _, rfl⟩
                case rest =>
                  obtain ⟨rfl, p, rfl⟩ := hcut
                  clear g0 hi0 hi1 hi2
                  cases E
                  · have hxy : x ≠ y := of_decide_eq_false HE.out.symm
                    have hinv2 := Lib.hid (HX.out hxy)
                    clear hxy HS HX HE
                    have hown2 := own_drewN p hown.out
                    rw [st_flat] at hown2
                    have hth := own_there hown2 q 1 (by omega)
                    have hset3 := own_set (fun s => [stC s]) (fun _ => rfl) hown2 q hql x
                    obtain ⟨wz, hwz⟩ : ∃ wz, (wr.drewN p).setCells g (q * 1) [stC x] = wz := ⟨_, rfl⟩
                    rw [hwz, ← st_flat] at hset3
                    have hwz2 : (wr.drewN p).setCell ⟨g, q, none⟩ (.string (strOf x)) = wz := by rw [← hwz, Nat.mul_one]; rfl
                    have HWZ := Lib.hid hwz2
                    have HS3 := Lib.hid hset3.1
                    have HG3 := Lib.hid hset3.2
                    have hxp : Ext wr (wr.drewN p) := (Ext.refl wr).drewN p
                    have f0 := hxp.cell f0
                    have hqc := hxp.cell hqc
                    have hfz : (wr.drewN p).frozen? ⟨g, q, none⟩ = false := by
                      have := (hth 0 (by decide)).2
                      rwa [Nat.mul_one, Nat.add_zero] at this
                    clear hwz hwz2 hset3 hown2 hth hxp
                    have hqn : q < n := by omega
                    go_upto_region 13 with fail
                    rw [HWZ.out]
                    go_wp2_with fail
                    go_roundw
                    case rel => exact ⟨q + 1, j + 1, r.set q x, by omega, hlt2, by omega, by go_num, by go_num, hinv2, HS3.out, (grown_drewN p hgr.out).trans HG3.out⟩
                    case measure => simp [intOf]; omega
                  · have hxy : x = y := of_decide_eq_true HE.out.symm
                    have hinv2 := Lib.hid (HS.out hxy)
                    clear hxy HS HX HE f0 hqc
                    go_wp2_with fail
                    go_roundw
                    case rel => exact ⟨q, j + 1, r, by omega, hlt2, by omega, rfl, by go_num, hinv2, own_drewN p hown.out, grown_drewN p hgr.out⟩
                    case measure => simp [intOf]; omega
              · obtain rfl : j = d := by omega
                have hI2 : decide ((j : Int) < (j : Int)) = false := decide_eq_false (by omega)
                have hdone := hinv.out
                rw [HD1.out, ← HN.out] at hdone
                obtain ⟨ht, hlen⟩ := hdone.done
                have hqn : q < n := by omega
                have hqc : ¬ cap = q := by omega
                have hqc2 : q ≤ cap := by omega
                have hcl := run_clear_tail hown.out 63 (.string ⟨#[]⟩) rfl (by simp [Value.cells, Value.oneCell']) Tryz.underlying63 zero9 q (cap - q) hqn
                have hfin := own_clear_tail hown.out (Nat.le_of_lt hqn) (.string ⟨#[]⟩) rfl
                have hres : Hid ((r.map stC).take (q * 1) = (compE l).map stC) := by show _ = _; rw [Nat.mul_one, ← List.map_take, ht]
                have HL := Lib.hid hlen
                have HF := Lib.hid hfin
                rw [Nat.mul_one] at hcl
                generalize hwz : wr.setCells g (q * 1) (Builtin.zeroCells (Value.string ⟨#[]⟩).cells (n - q)).toList = wz at *
                rw [Nat.mul_one] at hwz
                rw [hwz] at hcl
                clear ht hlen hfin hinv hdone hwz
                go_wp2_with fail
                go_ret
                refine ⟨_, rfl, ?_, hgr.out.trans HF.out.2, rfl⟩
                rw [HL.out, ← hres.out]
                exact HF.out.1
      · obtain rfl : k = n := by omega
        have hI : decide ((k : Int) < (k : Int)) = false := decide_eq_false (by omega)
        have hce : Hid (compE l = l) := by
          have h := hc.out
          rw [List.take_of_length_le (by rw [HN.out]; exact Nat.le_refl _)] at h
          exact h
        go_wp2_with fail
        go_ret
        refine ⟨_, rfl, ?_, hgr.out, rfl⟩
        rw [hce.out, HN.out]
        exact hown.out
end Go.Proofs.YtcgflkfbjnpdiaaGreat

namespace Go.Proofs
open Go.Shelf
def Tryz.lays106_ren : Go.Shelf.Ren := ⟨fun | 106 => 60 | 213 => 103 | 265 => 124 | n => n, fun | 9 => 9 | 3 => 3 | n => n, fun | n => n⟩
theorem Tryz.lays106 : Go.Proofs.Lays.n106 Tryz.prog Tryz.lays106_ren := {
  mixed := by kernel_rfl
  f106 := Tryz.func60.trans (congrArg some (by kernel_rfl))
  f213 := Tryz.func103.trans (congrArg some (by kernel_rfl))
  f265 := Tryz.func124.trans (congrArg some (by kernel_rfl))
  t3 := Tryz.underlying3
  a3 := Tryz.isAgg3
  z3 := Tryz.sizeOf3
  v3 := Tryz.zeroValue3
  t9 := Tryz.underlying9
  a9 := Tryz.isAgg9
  z9 := Tryz.sizeOf9
  v9 := Tryz.zeroValue9 }
open Go.RowKit in
/-- strings.Compare: "Compare returns an integer comparing two strings lexicographically. The result will be 0 if a == b, -1 if a < b, and +1 if a > b.": IT RETURNS 'Lib.compareBytes a b'; the world is as it was. (LAID: no walk: one application.) -/
theorem Tryz.strings_Compare (a b : ByteArray) (w : World) :
    Calls Tryz.prog 60 #[.string a, .string b] w fun e w' => e = .returned (.int .i64 (Lib.compareBytes a.data.toList b.data.toList)) ∧ w' = w := Any.strings_Compare Tryz.lays106 a b w
def Tryz.lays99_ren : Go.Shelf.Ren := ⟨fun | 99 => 143 | 206 => 163 | n => n, fun | 9 => 9 | 4 => 4 | 3 => 3 | n => n, fun | n => n⟩
theorem Tryz.lays99 : Go.Proofs.Lays.n99 Tryz.prog Tryz.lays99_ren := {
  mixed := by kernel_rfl
  f99 := Tryz.func143.trans (congrArg some (by kernel_rfl))
  f206 := Tryz.func163.trans (congrArg some (by kernel_rfl))
  t3 := Tryz.underlying3
  a3 := Tryz.isAgg3
  z3 := Tryz.sizeOf3
  v3 := Tryz.zeroValue3
  t4 := Tryz.underlying4
  a4 := Tryz.isAgg4
  z4 := Tryz.sizeOf4
  v4 := Tryz.zeroValue4
  t9 := Tryz.underlying9
  a9 := Tryz.isAgg9
  z9 := Tryz.sizeOf9
  v9 := Tryz.zeroValue9 }
open Go.RowKit Go.Lib in
/-- strings.HasPrefix: "HasPrefix reports whether the string s begins with prefix.": IT RETURNS 'Lib.hasPrefix s prefix'; the world is as it was. (LAID: no walk: one application.) -/
theorem Tryz.strings_HasPrefix (s p : ByteArray) (w : World) :
    Calls Tryz.prog 143 #[.string s, .string p] w fun e w' => e = .returned (.bool (Lib.hasPrefix s.data.toList p.data.toList)) ∧ w' = w := Any.strings_HasPrefix Tryz.lays99 s p w
end Go.Proofs

namespace Go.Proofs.YtcgflkfbjnpdiaaGreat
open Go.RowKit

theorem cmpint_any (a b : Int) (w : World) : Calls Tryz.prog 57 #[.int .i64 a, .int .i64 b] w fun e w' => e = .returned (.int .i64 (Lib.compareInt a b)) ∧ w = w' := by
  rcases Int.lt_trichotomy a b with h | h | h
  · have e : Lib.compareInt a b = -1 := by unfold Lib.compareInt; rw [if_pos h]
    rw [e]
    have hd : decide (a < b) = true := decide_eq_true h
    clear e
    go_enter Tryz.func57, Tryz.ntmps57
    go_wp2
    go_ret
    exact ⟨rfl, rfl⟩
  · subst h
    have e : Lib.compareInt a a = 0 := wo_int.refl a
    rw [e]
    clear e
    go_enter Tryz.func57, Tryz.ntmps57
    go_wp2
    go_ret
    exact ⟨rfl, rfl⟩
  · have e : Lib.compareInt a b = 1 := by unfold Lib.compareInt; rw [if_neg (by omega), if_pos h]
    rw [e]
    have hd : decide (a < b) = false := decide_eq_false (by omega)
    have hd2 : decide (b < a) = true := decide_eq_true h
    clear e
    go_enter Tryz.func57, Tryz.ntmps57
    go_wp2
    go_ret
    exact ⟨rfl, rfl⟩
theorem cmpint64_any (a b : Int) (w : World) : Calls Tryz.prog 59 #[.int .i64 a, .int .i64 b] w fun e w' => e = .returned (.int .i64 (Lib.compareInt a b)) ∧ w = w' := by
  rcases Int.lt_trichotomy a b with h | h | h
  · have e : Lib.compareInt a b = -1 := by unfold Lib.compareInt; rw [if_pos h]
    rw [e]
    have hd : decide (a < b) = true := decide_eq_true h
    clear e
    go_enter Tryz.func59, Tryz.ntmps59
    go_wp2
    go_ret
    exact ⟨rfl, rfl⟩
  · subst h
    have e : Lib.compareInt a a = 0 := wo_int.refl a
    rw [e]
    clear e
    go_enter Tryz.func59, Tryz.ntmps59
    go_wp2
    go_ret
    exact ⟨rfl, rfl⟩
  · have e : Lib.compareInt a b = 1 := by unfold Lib.compareInt; rw [if_neg (by omega), if_pos h]
    rw [e]
    have hd : decide (a < b) = false := decide_eq_false (by omega)
    have hd2 : decide (b < a) = true := decide_eq_true h
    clear e
    go_enter Tryz.func59, Tryz.ntmps59
    go_wp2
    go_ret
    exact ⟨rfl, rfl⟩
theorem cmpstr_any (a b : List UInt8) (w : World) : Calls Tryz.prog 60 #[.string (strOf a), .string (strOf b)] w fun e w' => e = .returned (.int .i64 (Lib.compareBytes a b)) ∧ w = w' :=
  (Tryz.strings_Compare (strOf a) (strOf b) w).mono fun _ _ ⟨he, hw⟩ => ⟨he, hw.symm⟩

/-- The test of two numbers sa the walk spells it. -/
theorem beq_int_ne {a b : Int} (h : a ≠ b) : (a == b) = false := beq_eq_false_iff_ne.2 h

theorem rank_any (b : Bool) (w : World) : Calls Tryz.prog 61 #[.bool b] w fun e w' => e = .returned (.int .i64 (rankB b)) ∧ w' = w := by
  cases b
  all_goals
    go_enter Tryz.func61, Tryz.ntmps61
    go_wp2
    go_ret
    exact ⟨rfl, rfl⟩
theorem cmpint_back (a b : Int) (w : World) : Calls Tryz.prog 57 #[.int .i64 a, .int .i64 b] w fun e w' => e = .returned (.int .i64 (Lib.compareInt a b)) ∧ w' = w :=
  (cmpint_any a b w).mono fun _ _ ⟨h1, h2⟩ => ⟨h1, h2.symm⟩
theorem ta22 (v : Value) (w : World) : (Instr.typeAssert (.iface 2 v) 20 2 true).run Tryz.prog w = .ok (.tuple #[v, .bool true]) w := by kernel_rfl
theorem ta92 (v : Value) (w : World) : (Instr.typeAssert (.iface 9 v) 20 2 true).run Tryz.prog w = .ok (.tuple #[.int .i64 0, .bool false]) w := by kernel_rfl
theorem ta99 (v : Value) (w : World) : (Instr.typeAssert (.iface 9 v) 20 9 true).run Tryz.prog w = .ok (.tuple #[v, .bool true]) w := by kernel_rfl
theorem ta42 (v : Value) (w : World) : (Instr.typeAssert (.iface 4 v) 20 2 true).run Tryz.prog w = .ok (.tuple #[.int .i64 0, .bool false]) w := by kernel_rfl
theorem ta49 (v : Value) (w : World) : (Instr.typeAssert (.iface 4 v) 20 9 true).run Tryz.prog w = .ok (.tuple #[.string ⟨#[]⟩, .bool false]) w := by kernel_rfl
theorem ta44 (v : Value) (w : World) : (Instr.typeAssert (.iface 4 v) 20 4 true).run Tryz.prog w = .ok (.tuple #[v, .bool true]) w := by kernel_rfl
theorem ta02 (w : World) : (Instr.typeAssert .nilIface 20 2 true).run Tryz.prog w = .ok (.tuple #[.int .i64 0, .bool false]) w := by kernel_rfl
theorem ta09 (w : World) : (Instr.typeAssert .nilIface 20 9 true).run Tryz.prog w = .ok (.tuple #[.string ⟨#[]⟩, .bool false]) w := by kernel_rfl
theorem ta04 (w : World) : (Instr.typeAssert .nilIface 20 4 true).run Tryz.prog w = .ok (.tuple #[.bool false, .bool false]) w := by kernel_rfl

set_option maxRecDepth 100000 in
set_option maxHeartbeats 2000000 in
theorem compare_any (w : World) (ak an bk bn : Int) (sa sb : List UInt8) (ab bb : Bool) :
    Calls Tryz.prog 22 #[.agg #[.int .i64 ak, .int .i64 an, .string (strOf sa), .bool ab], .agg #[.int .i64 bk, .int .i64 bn, .string (strOf sb), .bool bb]] w
      fun e w' => e = .returned (.int .i64 (cmpV ⟨ak, an, sa, ab⟩ ⟨bk, bn, sb, bb⟩)) ∧ Grew w w' := by
  by_cases hk : ak = bk
  · subst hk
    by_cases h1 : ak = 1
    · subst h1
      have e : cmpV ⟨1, an, sa, ab⟩ ⟨1, bn, sb, bb⟩ = Lib.compareInt an bn := rfl
      rw [e]
      have t1 := ta22
      clear e
      go_enter Tryz.func22, Tryz.ntmps22
      go_wp2_with (first | (go_at_call 59; refine (cmpint64_any _ _ _).mono ?_; rintro e w' ⟨rfl, rfl⟩) | go_in)
      go_ret
      exact ⟨rfl, (((Grew.refl w).alloc _).alloc _).alloc _⟩
    · have d1 := beq_int_ne h1
      by_cases h2 : ak = 2
      · subst h2
        have e : cmpV ⟨2, an, sa, ab⟩ ⟨2, bn, sb, bb⟩ = Lib.compareBytes sa sb := rfl
        rw [e]
        have t1 := ta92
        have t2 := ta99
        clear e d1 h1
        go_enter Tryz.func22, Tryz.ntmps22
        go_wp2_with (first | (go_at_call 60; refine (cmpstr_any _ _ _).mono ?_; rintro e w' ⟨rfl, rfl⟩) | go_in)
        go_ret
        exact ⟨rfl, (((Grew.refl w).alloc _).alloc _).alloc _⟩
      · have d2 := beq_int_ne h2
        by_cases h3 : ak = 3
        · subst h3
          have e : cmpV ⟨3, an, sa, ab⟩ ⟨3, bn, sb, bb⟩ = cmpB ab bb := rfl
          rw [e]
          have t1 := ta42
          have t2 := ta49
          have t3 := ta44
          clear e d1 h1 d2 h2
          cases ab <;> cases bb
          all_goals
            go_enter Tryz.func22, Tryz.ntmps22
            go_upto_region 12 with go_in
            go_quiet (first | (go_at_call 61; exact Calls.quiet_of_same (rank_any _ _)) | (go_at_call 57; exact Calls.quiet_of_same (cmpint_back _ _ _)))
            go_wp2
            go_ret
            exact ⟨rfl, ((((Grew.refl w).alloc _).alloc _).alloc _).drewN _⟩
        · have d3 := beq_int_ne h3
          have e : cmpV ⟨ak, an, sa, ab⟩ ⟨ak, bn, sb, bb⟩ = 0 := by unfold cmpV; rw [if_pos rfl, if_neg h1, if_neg h2, if_neg h3]
          rw [e]
          have t1 := ta02
          have t2 := ta09
          have t3 := ta04
          clear e h1 h2 h3
          go_enter Tryz.func22, Tryz.ntmps22
          go_wp2_with go_in
          go_ret
          exact ⟨rfl, (((Grew.refl w).alloc _).alloc _).alloc _⟩
  · have e : cmpV ⟨ak, an, sa, ab⟩ ⟨bk, bn, sb, bb⟩ = Lib.compareInt ak bk := by unfold cmpV; rw [if_neg hk]
    rw [e]
    have d1 := beq_int_ne hk
    clear e hk
    go_enter Tryz.func22, Tryz.ntmps22
    go_wp2_with (first | (go_at_call 57; refine (cmpint_any _ _ _).mono ?_; rintro e w' ⟨rfl, rfl⟩) | go_in)
    go_ret
    exact ⟨rfl, ((Grew.refl w).alloc _).alloc _⟩

end Go.Proofs.YtcgflkfbjnpdiaaGreat

namespace Go.Proofs.YtcgflkfbjnpdiaaGreat

theorem prefix_ge : ∀ (p s : List UInt8), p.isPrefixOf s = true → 0 ≤ Lib.compareBytes s p
  | [], s, _ => by cases s <;> simp [Lib.compareBytes]
  | a :: p, [], h => by simp at h
  | a :: p, b :: s, h => by
    simp only [List.isPrefixOf, Bool.and_eq_true, beq_iff_eq] at h
    obtain ⟨rfl, h⟩ := h
    have := prefix_ge p s h
    simp only [Lib.compareBytes]
    rw [if_neg (UInt8.lt_irrefl a), if_neg (UInt8.lt_irrefl a)]; exact this

theorem has_fold (l : List V) (r : Rg) (v : V) : (l.foldl (fun r x => r.minus (oneV x)) r).has v = (r.has v && l.all fun x => !(oneV x).has v) := by
  induction l generalizing r with
  | nil => simp
  | cons x l ih => rw [List.foldl_cons, ih, has_minus, List.all_cons, Bool.and_assoc]
theorem has_in {c : C} (hm : mayC c = true) (h9 : c.op = 9) (v : V) : (ofR c).has v = c.set.any fun x => (oneV x).has v := by
  unfold ofR
  rw [hm, if_neg (by decide), if_neg (by omega), if_pos h9, has_minus, has_fold, all_has, Bool.true_and, Bool.true_and]
  induction c.set with
  | nil => rfl
  | cons x l ih => rw [List.all_cons, List.any_cons, Bool.not_and, Bool.not_not, ih]
theorem has_norm {c : C} (hm : mayC c = true) (v : V) : (ofR (normC c)).has v = (ofR c).has v := by
  by_cases h9 : c.op = 9
  · rw [has_in hm h9, has_in (norm_may hm) h9]
    have hi := set_inj hm
    rw [Bool.eq_iff_iff, List.any_eq_true, List.any_eq_true]
    constructor
    · rintro ⟨x, hx, e⟩; exact ⟨x, (sortU_mem _ hi x).1 hx, e⟩
    · rintro ⟨x, hx, e⟩; exact ⟨x, (sortU_mem _ hi x).2 hx, e⟩
  · have e1 : mayC (normC c) = true := norm_may hm
    have hl : ofL (normC c) = ofL c := rfl
    unfold ofR
    rw [hm, e1]
    show (if _ then _ else if c.op = 1 then _ else if c.op = 9 then _ else setR c.v.k (ofL (normC c))).has v = _
    rw [hl, if_neg h9, if_neg (show ¬ (!true) = true by decide), if_neg (show ¬ (!true) = true by decide), if_neg h9]
theorem norm_names {p : List C} (n : List UInt8) : n ∈ namesF (normP p) ↔ n ∈ namesF p := by
  rw [names_mem, names_mem]
  constructor
  · rintro ⟨c, hc, e⟩
    obtain ⟨d, hd, rfl⟩ := (normP_mem p c).1 hc
    exact ⟨d, hd, e⟩
  · rintro ⟨d, hd, e⟩
    exact ⟨normC d, (normP_mem p _).2 ⟨d, hd, rfl⟩, e⟩
theorem may_all {p : List C} (h : mayP p = true) : ∀ c ∈ p, mayC c = true := by
  unfold mayP at h
  simp only [Bool.and_eq_true] at h
  exact List.all_eq_true.1 h.2
theorem may_len {p : List C} (h : mayP p = true) : p.length ≤ 6 := by
  unfold mayP at h
  simp only [Bool.and_eq_true, decide_eq_true_eq] at h
  exact h.1
theorem may_mk {p : List C} (h1 : p.length ≤ 6) (h2 : ∀ c ∈ p, mayC c = true) : mayP p = true := by
  unfold mayP
  simp only [Bool.and_eq_true, decide_eq_true_eq]
  exact ⟨h1, List.all_eq_true.2 h2⟩
theorem norm_asked {p : List C} (h : mayP p = true) (n : List UInt8) (v : V) : (askedF (normP p) n).has v = (askedF p n).has v := by
  rw [asked_has (normP_may h), asked_has h, Bool.eq_iff_iff, List.all_eq_true, List.all_eq_true]
  constructor
  · intro a c hc
    have := a (normC c) ((normP_mem p _).2 ⟨c, hc, rfl⟩)
    rw [has_norm (may_all h c hc)] at this
    exact this
  · intro a z hz
    obtain ⟨c, hc, rfl⟩ := (normP_mem p z).1 hz
    rw [has_norm (may_all h c hc)]
    exact a c hc
theorem covers_norm {p : List C} (h : mayP p = true) : coversF (normP p) p = true ∧ coversF p (normP p) = true :=
  ⟨(covers_iff _ _).2 ⟨normP_may h, h, .inr fun n hn => ⟨(norm_names n).1 hn, fun v hv => by rw [norm_asked h]; exact hv⟩⟩,
   (covers_iff _ _).2 ⟨h, normP_may h, .inr fun n hn => ⟨(norm_names n).2 hn, fun v hv => by rw [norm_asked h] at hv; exact hv⟩⟩⟩
theorem may_nil : mayP [] = true := rfl
theorem covers_nil {p : List C} (h : mayP p = true) : coversF [] p = true := covers_sub may_nil h fun _ hc => by cases hc
theorem covers_less {p : List C} (h : mayP p = true) (k : Nat) : coversF (p.take k ++ p.drop (k + 1)) p = true := by
  have hsub : ∀ c ∈ p.take k ++ p.drop (k + 1), c ∈ p := fun c hc => by
    rcases List.mem_append.1 hc with hc | hc
    · exact List.mem_of_mem_take hc
    · exact List.mem_of_mem_drop hc
  refine covers_sub (may_mk ?_ fun c hc => may_all h c (hsub c hc)) h hsub
  have := may_len h
  rw [List.length_append, List.length_take, List.length_drop]; omega
theorem may_app {p q : List C} (hp : mayP p = true) (hq : mayP q = true) (hl : p.length + q.length ≤ 6) : mayP (p ++ q) = true :=
  may_mk (by rw [List.length_append]; exact hl) fun c hc => by
    rcases List.mem_append.1 hc with hc | hc
    · exact may_all hp c hc
    · exact may_all hq c hc
theorem covers_both {p q r : List C} (hp : mayP p = true) (hq : mayP q = true) (hl : p.length + q.length ≤ 6) : coversF (p ++ q) r = (coversF p r && coversF q r) := by
  have hb := may_app hp hq hl
  rw [Bool.eq_iff_iff, Bool.and_eq_true]
  constructor
  · intro h
    exact ⟨covers_trans (covers_sub hp hb fun c hc => List.mem_append_left _ hc) h, covers_trans (covers_sub hq hb fun c hc => List.mem_append_right _ hc) h⟩
  · rintro ⟨h1, h2⟩
    obtain ⟨_, a2, a3⟩ := (covers_iff _ _).1 h1
    obtain ⟨_, _, b3⟩ := (covers_iff _ _).1 h2
    refine (covers_iff _ _).2 ⟨hb, a2, ?_⟩
    rcases a3 with a3 | a3
    · exact .inl a3
    · rcases b3 with b3 | b3
      · exact .inl b3
      · right
        intro n hn
        have key : ∀ {x : List C}, mayP x = true → (∀ n ∈ namesF x, n ∈ namesF r ∧ ∀ v, (askedF r n).has v = true → (askedF x n).has v = true) → ∀ v, (askedF r n).has v = true → (askedF x n).has v = true := fun {x} hx h v hv => by
          by_cases hnx : n ∈ namesF x
          · exact (h n hnx).2 v hv
          · exact asked_free hx hnx v
        refine ⟨?_, fun v hv => ?_⟩
        · obtain ⟨c, hc, e⟩ := (names_mem _ _).1 hn
          rcases List.mem_append.1 hc with hc | hc
          · exact (a3 n ((names_mem _ _).2 ⟨c, hc, e⟩)).1
          · exact (b3 n ((names_mem _ _).2 ⟨c, hc, e⟩)).1
        · have k1 := key hp a3 v hv
          have k2 := key hq b3 v hv
          rw [asked_has hp] at k1
          rw [asked_has hq] at k2
          rw [asked_has hb, List.all_append, k1, k2]; rfl

/-! Overlapping -/
def bothF (p q : List C) : List (List UInt8) := sortU Lib.compareBytes (namesF p ++ namesF q)
def apartF (p q : List C) : Option (List UInt8) := if mayP p && mayP q then (bothF p q).find? fun n => ((askedF p n).and (askedF q n)).empty else none
def overlapsF (p q : List C) : Bool := mayP p && mayP q && (apartF p q).isNone
theorem both_mem (p q : List C) (n : List UInt8) : n ∈ bothF p q ↔ n ∈ namesF p ∨ n ∈ namesF q := by
  unfold bothF
  rw [sortU_mem _ (fun _ _ _ _ => bytes_zero), List.mem_append]
theorem apart_good (p q : List C) (n : List UInt8) : Good4 ((askedF p n).and (askedF q n)) := (good_asked p n).and (good_asked q n)
theorem overlaps_iff (p q : List C) : overlapsF p q = true ↔ mayP p = true ∧ mayP q = true ∧ ∀ n, n ∈ namesF p ∨ n ∈ namesF q → ∃ v, (askedF p n).has v = true ∧ (askedF q n).has v = true := by
  unfold overlapsF apartF
  simp only [Bool.and_eq_true, and_assoc]
  refine and_congr_right fun h1 => and_congr_right fun h2 => ?_
  rw [if_pos ⟨h1, h2⟩, Option.isNone_iff_eq_none, List.find?_eq_none]
  constructor
  · intro h n hn
    have hne : ¬ ((askedF p n).and (askedF q n)).empty = true := h n ((both_mem p q n).2 hn)
    rw [empty_iff (apart_good p q n)] at hne
    obtain ⟨v, hv⟩ := Classical.not_forall.1 hne
    refine ⟨v, ?_⟩
    rw [has_and] at hv
    simpa using hv
  · intro h n hn
    obtain ⟨v, h3, h4⟩ := h n ((both_mem p q n).1 hn)
    intro he
    have := (empty_iff (apart_good p q n)).1 he v
    rw [has_and, h3, h4] at this; cases this
theorem overlaps_symm (p q : List C) : overlapsF p q = overlapsF q p := by
  rw [Bool.eq_iff_iff, overlaps_iff, overlaps_iff]
  constructor
  · rintro ⟨h1, h2, h3⟩
    exact ⟨h2, h1, fun n hn => let ⟨v, a, b⟩ := h3 n hn.symm; ⟨v, b, a⟩⟩
  · rintro ⟨h1, h2, h3⟩
    exact ⟨h2, h1, fun n hn => let ⟨v, a, b⟩ := h3 n hn.symm; ⟨v, b, a⟩⟩
theorem names_nil : namesF [] = [] := rfl
theorem any_iff (p : List C) : overlapsF p [] = true ↔ mayP p = true ∧ noneF p = false := by
  rw [overlaps_iff]
  constructor
  · rintro ⟨h1, _, h3⟩
    refine ⟨h1, ?_⟩
    cases hn : noneF p with
    | false => rfl
    | true =>
      obtain ⟨n, hm, hv⟩ := none_iff.1 hn
      obtain ⟨v, a, _⟩ := h3 n (.inl hm)
      rw [hv] at a; cases a
  · rintro ⟨h1, h2⟩
    refine ⟨h1, may_nil, fun n hn => ?_⟩
    have hm : n ∈ namesF p := hn.elim id fun h => by rw [names_nil] at h; cases h
    have hne : ¬ ∀ v, (askedF p n).has v = false := fun h => by
      have := none_iff.2 ⟨n, hm, h⟩
      rw [h2] at this; cases this
    obtain ⟨v, hv⟩ := Classical.not_forall.1 hne
    exact ⟨v, by simpa using hv, asked_free may_nil (by rw [names_nil]; intro h; cases h) v⟩
/-- Who overlaps one that a third one covers overlaps that third one. -/
theorem overlap_law1 {p q r : List C} (h1 : overlapsF p q = true) (h2 : coversF r q = true) : overlapsF p r = true := by
  obtain ⟨a1, a2, a3⟩ := (overlaps_iff p q).1 h1
  obtain ⟨b1, _, b3⟩ := (covers_iff r q).1 h2
  refine (overlaps_iff p r).2 ⟨a1, b1, fun n hn => ?_⟩
  rcases b3 with b3 | b3
  · exfalso
    obtain ⟨m, hm, hv⟩ := none_iff.1 b3
    obtain ⟨v, _, h⟩ := a3 m (.inr hm)
    rw [hv] at h; cases h
  · have hnq : n ∈ namesF p ∨ n ∈ namesF q := hn.imp id fun h => (b3 n h).1
    obtain ⟨v, c1, c2⟩ := a3 n hnq
    refine ⟨v, c1, ?_⟩
    by_cases hr : n ∈ namesF r
    · exact (b3 n hr).2 v c2
    · exact asked_free b1 hr v
/-- One that covers another one, which matches anything, overlaps it. -/
theorem overlap_law2 {p q : List C} (h1 : coversF p q = true) (h2 : overlapsF q [] = true) : overlapsF p q = true := by
  obtain ⟨a1, a2, a3⟩ := (covers_iff p q).1 h1
  obtain ⟨_, hn⟩ := (any_iff q).1 h2
  obtain ⟨_, _, b3⟩ := (overlaps_iff q []).1 h2
  refine (overlaps_iff p q).2 ⟨a1, a2, fun n hm => ?_⟩
  rcases a3 with a3 | a3
  · rw [hn] at a3; cases a3
  · have hq : n ∈ namesF q := hm.elim (fun h => (a3 n h).1) id
    obtain ⟨v, c1, _⟩ := b3 n (.inl hq)
    refine ⟨v, ?_, c1⟩
    by_cases hp : n ∈ namesF p
    · exact (a3 n hp).2 v c1
    · exact asked_free a1 hp v
/-- What matches nothing is covered by all, and overlaps nobody. -/
theorem overlap_law3 {p q : List C} (hp : mayP p = true) (h : overlapsF p [] = false) : overlapsF p q = false ∧ (mayP q = true → coversF q p = true) := by
  have hn : noneF p = true := by
    cases hn : noneF p with
    | true => rfl
    | false => have := (any_iff p).2 ⟨hp, hn⟩; rw [h] at this; cases this
  refine ⟨?_, fun hq => (covers_iff q p).2 ⟨hq, hp, .inl hn⟩⟩
  cases ho : overlapsF p q with
  | false => rfl
  | true =>
    obtain ⟨_, _, a3⟩ := (overlaps_iff p q).1 ho
    obtain ⟨n, hm, hv⟩ := none_iff.1 hn
    obtain ⟨v, c1, _⟩ := a3 n (.inl hm)
    rw [hv] at c1; cases c1
theorem apart_some {p q : List C} {n : List UInt8} (h : apartF p q = some n) : mayP p = true ∧ mayP q = true ∧ ((askedF p n).and (askedF q n)).empty = true ∧ (n ∈ namesF p ∨ n ∈ namesF q) := by
  unfold apartF at h
  split at h
  · rename_i hm
    simp only [Bool.and_eq_true] at hm
    exact ⟨hm.1, hm.2, List.find?_some (p := fun n => ((askedF p n).and (askedF q n)).empty) h, (both_mem p q n).1 (List.mem_of_find?_eq_some h)⟩
  · cases h
/-- Without their constraints of all other names they do not overlap either. -/
theorem apart_only {p q : List C} {n : List UInt8} (h : apartF p q = some n) : overlapsF (p.filter fun c => decide (c.name = n)) (q.filter fun c => decide (c.name = n)) = false := by
  obtain ⟨hp, hq, he, hn⟩ := apart_some h
  have hm : ∀ {x : List C}, mayP x = true → mayP (x.filter fun c => decide (c.name = n)) = true := fun {x} hx =>
    may_mk (Nat.le_trans (List.length_filter_le _ _) (may_len hx)) fun c hc => may_all hx c (List.mem_filter.1 hc).1
  have ha : ∀ {x : List C}, mayP x = true → ∀ v, (askedF (x.filter fun c => decide (c.name = n)) n).has v = (askedF x n).has v := fun {x} hx v => by
    rw [asked_has (hm hx), asked_has hx, List.all_filter]
    congr 1
    funext c
    by_cases hc : c.name = n
    · simp [hc]
    · simp [hc]
  cases ho : overlapsF (p.filter fun c => decide (c.name = n)) (q.filter fun c => decide (c.name = n)) with
  | false => rfl
  | true =>
    exfalso
    obtain ⟨_, _, a3⟩ := (overlaps_iff _ _).1 ho
    have hn' : n ∈ namesF (p.filter fun c => decide (c.name = n)) ∨ n ∈ namesF (q.filter fun c => decide (c.name = n)) := hn.imp (fun h => by
        obtain ⟨c, hc, e⟩ := (names_mem _ _).1 h
        exact (names_mem _ _).2 ⟨c, List.mem_filter.2 ⟨hc, decide_eq_true e⟩, e⟩) (fun h => by
        obtain ⟨c, hc, e⟩ := (names_mem _ _).1 h
        exact (names_mem _ _).2 ⟨c, List.mem_filter.2 ⟨hc, decide_eq_true e⟩, e⟩)
    obtain ⟨v, c1, c2⟩ := a3 n hn'
    rw [ha hp] at c1
    rw [ha hq] at c2
    have := (empty_iff (apart_good p q n)).1 he v
    rw [has_and, c1, c2] at this; cases this

end Go.Proofs.YtcgflkfbjnpdiaaGreat
