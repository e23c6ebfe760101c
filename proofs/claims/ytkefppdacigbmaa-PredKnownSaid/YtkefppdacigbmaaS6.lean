/- slices.Compact at values. -/
import Derived.Test.YtkefppdacigbmaaI1
import Derived.WalkKit
import Derived.Lib.Hide
import Derived.Deep.CutBlock
import Derived.Deep.QuietTactic
import Derived.BigQuiet
import Derived.Test.YtkefppdacigbmaaO5
import Derived.Test.YtkefppdacigbmaaO4
import Derived.Deep.MidRow
import Derived.Outline
namespace Go.Proofs.Ytkefppdacigbmaa
open Go.RowKit Go.Sort

theorem eqV (x y : V) : decide (x = y) = ((x.k == y.k) && ((x.n == y.n) && ((x.s == y.s) && (x.b == y.b)))) := by
  obtain ⟨ak, an, as1, ab⟩ := x
  obtain ⟨bk, bn, bs, bb⟩ := y
  rw [Bool.eq_iff_iff]
  simp
theorem own_row {w : World} {base size n : Nat} {e : TypeId} {v : Value} {xs : List Value} (h : w.ownsRow base e size v n xs) : Row w size v n xs := Row.of_own h
theorem own_drewN {w : World} {base size n : Nat} {e : TypeId} {v : Value} {xs : List Value} (q : Nat) (h : w.ownsRow base e size v n xs) : (w.drewN q).ownsRow base e size v n xs := h
theorem grown_drewN {w w' : World} {row : Option Nat} (q : Nat) (h : w.grownBy w' row) : w.grownBy (w'.drewN q) row := ⟨h.os, h.tape, h.output, h.size, h.block⟩

set_option maxRecDepth 100000 in
set_option maxHeartbeats 4000000 in
theorem compactV_any (w : World) (base : Nat) (v : Value) (l : List V) (ho : w.ownsRow base 28 4 v l.length (l.flatMap vC)) (hl : l.length ≤ 1000000) :
    Calls Try.prog 60 #[v] w fun e w' => ∃ v', e = .returned v' ∧ w'.ownsRow base 28 4 v' (compE l).length ((compE l).flatMap vC) ∧ w.grownBy w' v.ownBlock ∧ v'.ownBlock = v.ownBlock := by
  by_cases h2 : l.length < 2
  · have hce : compE l = l := by
      match l, h2 with
      | [], _ => exact compE_nil
      | [x], _ => exact compE_one x
    rw [hce]
    obtain ⟨a, cap, rfl, hc, hm⟩ := Row.shape (own_row ho)
    have hd : decide ((l.length : Int) < 2) = true := decide_eq_true (by omega)
    have HO := Lib.hid ho
    clear ho hce
    generalize l.length = n at *
    go_enter Try.func60, Try.ntmps60
    go_wp2
    go_ret
    exact ⟨_, rfl, HO.out, ⟨rfl, rfl, rfl, Nat.le_refl _, fun _ _ _ => rfl⟩, rfl⟩
  · have hne : v ≠ .slice none 0 0 := by
      rintro rfl
      obtain ⟨_, _, e1, _, _⟩ := Row.shape (own_row ho)
      simp only [Value.slice.injEq] at e1
      omega
    rcases ho.2 with ⟨e0, _⟩ | ⟨g, cap, cur, rfl, hb, hg, hn, hm, hs, ht⟩
    · exact absurd e0 hne
    clear hne cur hg hs ht
    have hrow : ∀ wr : World, wr.ownsRow base 28 4 (.slice (some ⟨g, 0, none⟩) l.length cap) l.length (l.flatMap vC) → SetR wr (.slice (some ⟨g, 0, none⟩) l.length cap) l := fun wr h => own_row h
    have hd : decide ((l.length : Int) < 2) = false := decide_eq_false (by omega)
    have HO := Lib.hid ho
    clear ho
    have HROW := Lib.hid hrow
    clear hrow
    generalize hN : l.length = n at *
    have HN := Lib.hid hN
    clear hN
    go_enter Try.func60, Try.ntmps60
    go_wp2_with fail
    go_loopw [3] (fun i wr => ∃ k : Nat, 1 ≤ k ∧ k ≤ n ∧ i = .int .i64 k ∧ Hid (compE (l.take k) = l.take k) ∧ Hid (wr.ownsRow base 28 4 (.slice (some ⟨g, 0, none⟩) n cap) n (l.flatMap vC)) ∧ Hid (w.grownBy wr (some g))) (fun i _ => n - (intOf i).toNat)
    case atStart =>
      refine ⟨1, Nat.le_refl _, by omega, rfl, ?_, HO, ⟨rfl, rfl, rfl, Nat.le_refl _, fun _ _ _ => rfl⟩⟩
      show compE (l.take 1) = l.take 1
      match l, HN.out with
      | [], _ => exact compE_nil
      | x :: r, _ => exact compE_one x
    case round =>
      obtain ⟨k, hk1, hk, rfl, hc, hown, hgr⟩ := hrel
      by_cases hlt : k < n
      · have hI : decide ((k : Int) < (n : Int)) = true := decide_eq_true (by omega)
        have k1 : k < l.length := by rw [HN.out]; exact hlt
        have k0 : k - 1 < l.length := by omega
        have hset : SetR wr (.slice (some ⟨g, 0, none⟩) n cap) l := by have := HROW.out wr hown.out; exact this
        obtain ⟨_, _, e1, f0, f1, f2, f3⟩ := SetR.at hset k1
        cases e1
        obtain ⟨_, _, e1, g0, g1, g2, g3⟩ := SetR.at hset k0
        cases e1
        simp only [Nat.zero_add] at f0 f1 f2 f3 g0 g1 g2 g3
        have hcm : ((k : Int) - 1) = ((k - 1 : Nat) : Int) := by omega
        obtain ⟨E, hE⟩ : ∃ E : Bool, E = decide (l[k] = l[k - 1]) := ⟨_, rfl⟩
        have HE := Lib.hid hE
        clear hE
        go_upto_region 6 with fail
        go_cut [25] from 16 to 25 (fun v25 wx => v25 = .bool E ∧ ∃ q, wx = wr.drewN q)
        case first =>
          have HE2 : Hid (E = _) := HE.out.trans (eqV _ _)
          clear HE
          generalize l[k] = x at *
          generalize l[k - 1] = y at *
          clear hc hown hgr hset HO HROW HN
          have hi0 : (0 : Int) ≤ (k : Int) - 1 := by omega
          have hi1 : (k : Int) - 1 < (n : Int) := by omega
          have hi2 : ((k : Int) - 1).toNat = k - 1 := by omega
          cases b1 : (x.k == y.k)
          · go_quiet (fail)
            go_wp2_with fail
            go_meet
            exact ⟨by rw [HE2.out, b1]; rfl, _, rfl⟩
          · cases b2 : (x.n == y.n)
            · go_quiet (fail)
              go_wp2_with fail
              go_meet
              exact ⟨by rw [HE2.out, b1, b2]; rfl, _, rfl⟩
            · cases b3 : (x.s == y.s)
              · go_quiet (fail)
                go_wp2_with fail
                go_meet
                exact ⟨by rw [HE2.out, b1, b2, b3]; rfl, _, rfl⟩
              · cases b4 : (x.b == y.b)
                · go_quiet (fail)
                  go_wp2_with fail
                  go_meet
                  exact ⟨by rw [HE2.out, b1, b2, b3, b4]; rfl, _, rfl⟩
                · go_quiet (fail)
                  go_wp2_with fail
                  go_meet
                  exact ⟨by rw [HE2.out, b1, b2, b3, b4]; rfl, _, rfl⟩
        case rest =>
          obtain ⟨rfl, q, rfl⟩ := hcut
          clear f0 f1 f2 f3 g0 g1 g2 g3
          obtain ⟨m, rfl⟩ : ∃ m, k = m + 1 := ⟨k - 1, by omega⟩
          have hct := compE_take (l := l) (n := m) k1
          cases E
          · have hne : l[m + 1] ≠ l[m] := of_decide_eq_false HE.out.symm
            have hc2 : Hid (compE (l.take (m + 1 + 1)) = l.take (m + 1 + 1)) := by
              show _ = _
              rw [hct, if_neg hne, hc.out, ← List.take_succ_eq_append_getElem k1]
            clear hct hne HE
            go_wp2_with fail
            go_roundw
            case rel => exact ⟨m + 2, by omega, by omega, by go_num, hc2, own_drewN q hown.out, grown_drewN q hgr.out⟩
            case measure => simp [intOf]; omega
          · have heq : l[m + 1] = l[m] := of_decide_eq_true HE.out.symm
            have hstart : Hid (CompInv l l (m + 1) (m + 1 + 1)) := CompInv.start k1 hc.out heq
            clear hct heq HE
            have hcapn : m + 1 < cap := by omega
            have hne : ¬ cap = m + 1 := by omega
            go_wp2_with fail
            obtain ⟨d, hd⟩ : ∃ d, d = n - (m + 1) := ⟨_, rfl⟩
            obtain ⟨ce, hce⟩ : ∃ ce, ce = cap - (m + 1) := ⟨_, rfl⟩
            rw [← hd, ← hce]
            have hd1 : m + 1 + d = n := by omega
            have HD1 := Lib.hid hd1
            have hmn : m + 1 + d ≤ n := by omega
            have hd2 : d ≤ 1000000 := by omega
            have hd3 : d ≤ ce := by omega
            have hq0 : m + 1 ≤ n := by omega
            clear hd hce hd1
            go_loopw [3, 5] (fun kk jj wr2 => ∃ (q j : Nat) (r : List V), 1 ≤ j ∧ j ≤ d ∧ q + 1 ≤ m + 1 + j ∧ kk = .int .i64 q ∧ jj = .int .i64 j ∧ Hid (CompInv l r q (m + 1 + j)) ∧ Hid (wr2.ownsRow base 28 4 (.slice (some ⟨g, 0, none⟩) n cap) n (r.flatMap vC)) ∧ Hid (w.grownBy wr2 (some g))) (fun _ jj _ => d - (intOf jj).toNat)
            case atStart => exact ⟨m + 1, 1, l, Nat.le_refl _, by have := HD1.out; omega, by omega, rfl, rfl, hstart, own_drewN q hown.out, grown_drewN q hgr.out⟩
            case round =>
              clear hstart hown hgr hc hset hk1 hk
              obtain ⟨q, j, r, hj1, hj, hq, rfl, rfl, hinv, hown, hgr⟩ := hrel
              by_cases hlt2 : j < d
              · have hI2 : decide ((j : Int) < (d : Int)) = true := decide_eq_true (by omega)
                have hil : m + 1 + j < l.length := by rw [HN.out]; have := HD1.out; omega
                have k0 : m + 1 + j - 1 < l.length := by omega
                obtain ⟨r1, r2, er1, er2⟩ := hinv.out.at hil
                have hlr : r.length = n := by rw [hinv.out.len, HN.out]
                have hset2 : SetR wr (.slice (some ⟨g, 0, none⟩) n cap) r := by unfold SetR; rw [hlr]; exact own_row hown.out
                obtain ⟨_, _, e1, f0, f1, f2, f3⟩ := SetR.at hset2 r1
                cases e1
                obtain ⟨_, _, e1, g0, g1, g2, g3⟩ := SetR.at hset2 r2
                cases e1
                rw [er1] at f0 f1 f2 f3
                rw [er2] at g0 g1 g2 g3
                have ea : (m + 1 + j) * 4 = (m + 1) * 4 + j * 4 := by omega
                have eb : (m + 1 + j - 1) * 4 = (m + 1) * 4 + (j - 1) * 4 := by omega
                simp only [Nat.zero_add, ea] at f0 f1 f2 f3
                simp only [Nat.zero_add, eb] at g0 g1 g2 g3
                obtain ⟨E, hE⟩ : ∃ E : Bool, E = decide (l[m + 1 + j] = l[m + 1 + j - 1]'k0) := ⟨_, rfl⟩
                have HE := Lib.hid hE
                clear hE ea eb er1 er2 r1 r2 hset2
                have hsame := fun h => hinv.out.same hil h
                have hnext := fun h => hinv.out.next hil h
                have HS := Lib.hid hsame
                have HX := Lib.hid hnext
                clear hsame hnext
                generalize l[m + 1 + j] = x at *
                generalize l[m + 1 + j - 1]'k0 = y at *
                have hlr2 : n ≤ r.length := by omega
                clear hinv hlr
                have hi0 : (0 : Int) ≤ (j : Int) - 1 := by omega
                have hi1 : (j : Int) - 1 < (d : Int) := by omega
                have hi2 : ((j : Int) - 1).toNat = j - 1 := by omega
                go_upto_region 11 with fail
                go_cut [44] from 35 to 44 (fun v44 wx => v44 = .bool (!E) ∧ ∃ p, wx = wr.drewN p)
                case first =>
                  have HE2 : Hid (E = _) := HE.out.trans (eqV _ _)
                  clear HE HS HX hown hgr HO HROW HN HD1
                  cases b1 : (x.k == y.k)
                  · go_quiet (fail)
                    go_wp2_with fail
                    go_meet
                    exact ⟨by rw [HE2.out, b1]; rfl, _, rfl⟩
                  · cases b2 : (x.n == y.n)
                    · go_quiet (fail)
                      go_wp2_with fail
                      go_meet
                      exact ⟨by rw [HE2.out, b1, b2]; rfl, _, rfl⟩
                    · cases b3 : (x.s == y.s)
                      · go_quiet (fail)
                        go_wp2_with fail
                        go_meet
                        exact ⟨by rw [HE2.out, b1, b2, b3]; rfl, _, rfl⟩
                      · cases b4 : (x.b == y.b)
                        · go_quiet (fail)
                          go_wp2_with fail
                          go_meet
                          exact ⟨by rw [HE2.out, b1, b2, b3, b4]; rfl, _, rfl⟩
                        · go_quiet (fail)
                          go_wp2_with fail
                          go_meet
                          exact ⟨by rw [HE2.out, b1, b2, b3, b4]; rfl, _, rfl⟩
                case rest =>
                  obtain ⟨rfl, p, rfl⟩ := hcut
                  clear g0 g1 g2 g3 hi0 hi1 hi2
                  cases E
                  · have hxy : x ≠ y := of_decide_eq_false HE.out.symm
                    have hinv2 := Lib.hid (HX.out hxy)
                    clear hxy HS HX HE
                    have hql : q < r.length := by omega
                    have hth := own_there (own_drewN p hown.out) q 4 (by omega)
                    have hset3 := own_set vC vC_len (own_drewN p hown.out) q hql x
                    obtain ⟨wz, hwz⟩ : ∃ wz, (wr.drewN p).setCells g (q * 4) (vC x) = wz := ⟨_, rfl⟩
                    rw [hwz] at hset3
                    have HWZ := Lib.hid hwz
                    clear hwz
                    have HS3 := Lib.hid hset3.1
                    have HG3 := Lib.hid hset3.2
                    clear hset3
                    have hxp : Ext wr (wr.drewN p) := (Ext.refl wr).drewN p
                    have f0 := hxp.cell f0
                    have f1 := hxp.cell f1
                    have f2 := hxp.cell f2
                    have f3 := hxp.cell f3
                    have hqn : q < n := by omega
                    go_wp2_with (refine wpList_store_mid rfl 28 (.tmp 51) (.tmp 50) rfl g (q * 4) #[.int .i64 x.k, .int .i64 x.n, .string (strOf x.s), .bool x.b] rfl rfl hth size28 (by simp [Value.oneCell']) ?_; rw [show (wr.drewN p).setCells g (q * 4) (#[.int .i64 x.k, .int .i64 x.n, .string (strOf x.s), .bool x.b] : Array Value).toList = wz from HWZ.out])
                    go_roundw
                    case rel => (repeat apply Exists.intro); refine ⟨?_, rfl⟩; exact ⟨q + 1, j + 1, r.set q x, by omega, hlt2, by omega, by go_num, by go_num, hinv2, HS3.out, (grown_drewN p hgr.out).trans HG3.out⟩
                    case measure => simp [intOf]; omega
                  · have hxy : x = y := of_decide_eq_true HE.out.symm
                    have hinv2 := Lib.hid (HS.out hxy)
                    clear hxy HS HX HE f0 f1 f2 f3
                    go_wp2_with fail
                    go_roundw
                    case rel => exact ⟨q, j + 1, r, by omega, hlt2, by omega, rfl, by go_num, hinv2, own_drewN p hown.out, grown_drewN p hgr.out⟩
                    case measure => simp [intOf]; omega
              · obtain rfl : j = d := by omega
                have hI2 : decide ((j : Int) < (j : Int)) = false := decide_eq_false (by omega)
                have hdone := hinv.out
                rw [HD1.out, ← HN.out] at hdone
                obtain ⟨ht, hlen⟩ := hdone.done
                have hqn : q < n := by omega
                have hqc : ¬ cap = q := by omega
                have hqc2 : q ≤ cap := by omega
                have hcl := run_clear_tail hown.out 29 (.agg #[.int .i64 0, .int .i64 0, .string ⟨#[]⟩, .bool false]) rfl (by simp [Value.cells, Value.oneCell']) Try.underlying29 zero28 q (cap - q) hqn
                have hfin := own_clear_tail hown.out (Nat.le_of_lt hqn) (.agg #[.int .i64 0, .int .i64 0, .string ⟨#[]⟩, .bool false]) rfl
                have hres : Hid ((r.flatMap vC).take (q * 4) = (compE l).flatMap vC) := by show _ = _; rw [flat_take vC 4 vC_len, ht]
                have HL := Lib.hid hlen
                have HF := Lib.hid hfin
                generalize wr.setCells g (q * 4) (Builtin.zeroCells (Value.agg #[.int .i64 0, .int .i64 0, .string ⟨#[]⟩, .bool false]).cells (n - q)).toList = wz at *
                clear ht hlen hfin hinv hdone
                go_wp2_with fail
                go_ret
                refine ⟨_, rfl, ?_, hgr.out.trans HF.out.2, rfl⟩
                rw [HL.out, ← hres.out]
                exact HF.out.1
      · obtain rfl : k = n := by omega
        have hI : decide ((k : Int) < (k : Int)) = false := decide_eq_false (by omega)
        have hce : Hid (compE l = l) := by
          have h := hc.out
          rw [List.take_of_length_le (by rw [HN.out]; exact Nat.le_refl _)] at h
          exact h
        go_wp2_with fail
        go_ret
        refine ⟨_, rfl, ?_, hgr.out, rfl⟩
        rw [hce.out, HN.out]
        exact hown.out
end Go.Proofs.Ytkefppdacigbmaa
