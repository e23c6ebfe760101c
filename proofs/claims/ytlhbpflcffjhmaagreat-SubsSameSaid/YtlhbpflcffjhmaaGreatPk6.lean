/- Rows of predicates: IndexFunc, ContainsFunc, DeleteFunc with any closure.
The reference's Compare of values.
What a constraint asks of a value: pred.asks, pred.Holds.
What pred.asks gives.
Holds, Get, Matches: the program's.
event.Get.
pred.Matches.
The reference's Holds.
The reference's Matches.
What a value may be; Number, Word, Truth.
MayCons, May: which constraints, which predicates may be. -/
import Derived.Lib.Bytes2
import Derived.Lib.Strings
import Derived.Deep.CutBlock
import Derived.Test.YtlhbpflcffjhmaaGreatPk2
import Derived.Test.YtlhbpflcffjhmaaGreatPk3
import Derived.Test.YtlhbpflcffjhmaaGreatPk5
namespace Go.Proofs.YtlhbpflcffjhmaaGreat
open Go.RowKit Go.Sort Go.MapKept

/-- A row of predicates of the call's own; the predicates lie anywhere. -/
def OwnQ (w : World) (b : Nat) (v : Value) (l : List PP) : Prop := w.ownsRow b 25 1 v l.length (l.flatMap ppC)
theorem OwnQ.row {w : World} {b : Nat} {v : Value} {l : List PP} (h : OwnQ w b v l) : Row w 1 v l.length (l.flatMap ppC) := Row.of_own h
theorem OwnQ.preds {w : World} {b : Nat} {v : Value} {l : List PP} (h : OwnQ w b v l) (hs : ∀ x ∈ l, PredR w x.h x.p) : PredsR w v l := ⟨h.row, hs⟩
theorem OwnQ.ext {w w' : World} {b : Nat} {v : Value} {l : List PP} (h : OwnQ w b v l) (hx : Ext w w') : OwnQ w' b v l := own_ext h hx
theorem OwnQ.low {w : World} {b c : Nat} {v : Value} {l : List PP} (h : OwnQ w b v l) (hb : c ≤ b) : OwnQ w c v l := own_low h hb
set_option maxRecDepth 100000 in
set_option maxHeartbeats 2000000 in
theorem idxQ_any (w : World) (v : Value) (l : List PP) (h : PredsR w v l) (g : Nat) (cb : Array Value) (p : PP → Bool) (eg : ∀ args w, (callFunc g args).run Tryz.prog w = .ok (.enter g args) w)
    (hc : ∀ (W : World) (x : PP), Ext w W → x ∈ l → Calls Tryz.prog g (#[x.h] ++ cb) W fun e W' => e = .returned (.bool (p x)) ∧ Ext W W') :
    Calls Tryz.prog 93 #[v, .func (.func g) #[] cb] w fun e w' => e = .returned (.int .i64 (idxP p l)) ∧ Ext w w' := by
  obtain ⟨a, cap, rfl, hcc, hm⟩ := Row.shape h.row
  unfold maxLen at hm
  generalize hn : l.length = n at *
  have HN := Lib.hid hn
  clear hn
  have HC := Lib.hid hc
  clear hc
  go_enter Tryz.func93, Tryz.ntmps93
  go_wp2_with fail
  go_loopw [5, 8] (fun _ i wr => ∃ k : Nat, k ≤ n ∧ i = .int .i64 k ∧ Hid (∀ x ∈ l.take k, p x = false) ∧ Ext w wr) (fun _ i _ => n - (intOf i).toNat)
  case atStart => exact ⟨0, Nat.zero_le _, rfl, (by show ∀ x ∈ l.take 0, _; simp), Ext.refl w⟩
  case round =>
    obtain ⟨k, hk, rfl, hall, hx⟩ := hrel
    by_cases hlt : k < n
    · have k1 : k < l.length := by rw [HN.out]; exact hlt
      have hI : decide ((k : Int) < (n : Int)) = true := decide_eq_true (by omega)
      have hext := h.ext hx
      obtain ⟨B1, o1, rfl, f0⟩ := PredsR.at hext k1
      have hcall := HC.out _ l[k] hx (List.getElem_mem k1)
      have hhit : p l[k] = true → idxP p l = k := fun e => idxP_hit k1 hall.out e
      have hnext : p l[k] = false → ∀ x ∈ l.take (k + 1), p x = false := fun e x hx => by
        rw [List.take_succ_eq_append_getElem k1] at hx
        rcases List.mem_append.1 hx with hx | hx
        · exact hall.out x hx
        · rw [List.mem_singleton.1 hx]; exact e
      generalize l[k] = x at *
      have HCALL := Lib.hid hcall
      clear hcall
      cases hq : p x with
      | true =>
        have hres := Lib.hid (hhit hq)
        have HQ := Lib.hid hq
        clear hhit hnext hq
        go_wp2_with (go_at_fn g; refine HCALL.out.mono ?_; rw [HQ.out]; rintro e w2 ⟨rfl, hx2⟩)
        go_ret
        exact ⟨by rw [hres.out]; rfl, hx.trans hx2⟩
      | false =>
        have hres := Lib.hid (hnext hq)
        have HQ := Lib.hid hq
        clear hhit hnext hq
        go_wp2_with (go_at_fn g; refine HCALL.out.mono ?_; rw [HQ.out]; rintro e w2 ⟨rfl, hx2⟩)
        go_roundw
        case rel => exact ⟨k + 1, hlt, by go_num, hres.out, hx.trans hx2⟩
        case measure => simp [intOf]; omega
    · obtain rfl : k = n := by omega
      have hI : decide ((k : Int) < (k : Int)) = false := decide_eq_false (by omega)
      have hres : Hid (idxP p l = -1) := by
        show _ = _
        refine idxP_miss fun x hx => hall.out x ?_
        rw [List.take_of_length_le (by rw [HN.out]; exact Nat.le_refl _)]; exact hx
      go_wp2_with fail
      go_ret
      exact ⟨by rw [hres.out]; rfl, hx⟩

set_option maxRecDepth 100000 in
set_option maxHeartbeats 2000000 in
theorem hasQ_any (w : World) (v : Value) (l : List PP) (h : PredsR w v l) (g : Nat) (cb : Array Value) (p : PP → Bool) (eg : ∀ args w, (callFunc g args).run Tryz.prog w = .ok (.enter g args) w)
    (hc : ∀ (W : World) (x : PP), Ext w W → x ∈ l → Calls Tryz.prog g (#[x.h] ++ cb) W fun e W' => e = .returned (.bool (p x)) ∧ Ext W W') :
    Calls Tryz.prog 49 #[v, .func (.func g) #[] cb] w fun e w' => e = .returned (.bool (l.any p)) ∧ Ext w w' := by
  have hidx := idxQ_any w v l h g cb p eg hc
  rw [← idxP_any]
  obtain ⟨a, cap, rfl, hcc, hm⟩ := Row.shape h.row
  have HI := Lib.hid hidx
  clear hidx hc h
  generalize idxP p l = ix at *
  go_enter Tryz.func49, Tryz.ntmps49
  go_wp2_with (go_at_call 93; refine HI.out.mono ?_; rintro e w1 ⟨rfl, hx1⟩)
  go_ret
  exact ⟨rfl, hx1⟩
theorem rowQ_at {w : World} {g n cap : Nat} {us : List PP} (h : Row w 1 (.slice (some ⟨g, 0, none⟩) n cap) n (us.flatMap ppC)) (hn : us.length = n) {k : Nat} (hk : k < us.length) : ∃ B o, (some ⟨g, 0, none⟩ : Option Addr) = some ⟨B, o, none⟩ ∧ w.cell? ⟨B, o + k, none⟩ = some us[k].h := by
  have q := Row.cellAt h ((flat_get ppC 1 ppC_len us k hk 0 (by decide)).trans (rfl : (ppC us[k])[0]? = some us[k].h)) (by omega)
  rw [Nat.mul_one, Nat.add_zero] at q
  exact ⟨g, 0, rfl, q⟩
theorem zeroQ : ∀ w, (zeroValue 25).run Tryz.prog w = .ok (.slice none 0 0) w := fun _ => by kernel_rfl
set_option maxRecDepth 100000 in
set_option maxHeartbeats 8000000 in
theorem delQ_any (w : World) (base : Nat) (v : Value) (l : List PP) (ho : w.ownsRow base 25 1 v l.length (l.flatMap ppC)) (hs : ∀ x ∈ l, PredR w x.h x.p) (hl : l.length ≤ 1000000) (G : Nat) (cb : Array Value) (p : PP → Bool)
    (eg : ∀ args w, (callFunc G args).run Tryz.prog w = .ok (.enter G args) w)
    (hc : ∀ (W : World) (x : PP), w.grownBy W v.ownBlock → x ∈ l → Calls Tryz.prog G (#[x.h] ++ cb) W fun e W' => e = .returned (.bool (p x)) ∧ Ext W W') :
    Calls Tryz.prog 67 #[v, .func (.func G) #[] cb] w fun e w' => ∃ v', e = .returned v' ∧ w'.ownsRow base 25 1 v' (l.filter fun x => !p x).length ((l.filter fun x => !p x).flatMap ppC) ∧ w.grownBy w' v.ownBlock := by
  have hidx := idxQ_any w v l ⟨Row.of_own ho, hs⟩ G cb p eg (fun W x hx hm => hc W x (grown_ext (grown_refl w _) hx) hm)
  have hs9 := hs
  clear hs
  obtain ⟨ix, hix⟩ : ∃ ix, ix = idxP p l := ⟨_, rfl⟩
  rw [← hix] at hidx
  cases hf : l.findIdx? p with
  | none =>
    have hix1 : ix = -1 := by rw [hix]; unfold idxP; rw [hf]
    subst hix1
    have hres := del_none hf
    have HR := Lib.hid hres
    have HO := Lib.hid ho
    have HI := Lib.hid hidx
    obtain ⟨a, cap, rfl, hc2, hm⟩ := Row.shape (Row.of_own ho)
    clear hs9 hix hres ho hidx hc hf eg
    generalize hnn : l.length = n at *
    have HNN := Lib.hid hnn
    clear hnn
    go_enter Tryz.func67, Tryz.ntmps67
    go_wp2_with (go_at_call 93; refine HI.out.mono ?_; rintro e w1 ⟨rfl, hx1⟩)
    go_ret
    refine ⟨_, rfl, ?_, grown_ext (grown_refl w _) hx1⟩
    rw [HR.out, HNN.out]
    exact own_ext HO.out hx1
  | some i =>
    obtain ⟨hi, hpi, hpre⟩ := idx_start hf
    have hix1 : ix = i := by rw [hix]; unfold idxP; rw [hf]
    subst hix1
    have hst := DelInv.start p hi hpre hpi
    rcases ho.2 with ⟨_, e0⟩ | ⟨g, cap, cur, rfl, hb, hg, hn, hm, hs, ht⟩
    · omega
    clear cur hg hs ht hb
    unfold maxLen at hm
    have hne : ((i : Int) == -1) = false := beq_eq_false_iff_ne.2 (by omega)
    have HO := Lib.hid ho
    have HI := Lib.hid hidx
    have HST := Lib.hid hst
    have HC := Lib.hid hc
    have HPS := Lib.hid hs9
    clear hs9 hidx hst hc hix hf hpre hpi ho
    generalize hN : l.length = n at *
    have HN := Lib.hid hN
    clear hN
    go_enter Tryz.func67, Tryz.ntmps67
    go_wp2_with (go_at_call 93; refine HI.out.mono ?_; rintro e w1 ⟨rfl, hx1⟩)
    go_loopw [5, 6] (fun ii jj wr => ∃ (k j : Nat) (r : List PP), ii = .int .i64 k ∧ jj = .int .i64 j ∧ k + 1 ≤ j ∧ j ≤ n ∧ Hid (DelInv p l r k j) ∧ Hid (wr.ownsRow base 25 1 (.slice (some ⟨g, 0, none⟩) n cap) n (r.flatMap ppC)) ∧ Hid (w.grownBy wr (some g))) (fun _ jj _ => n - (intOf jj).toNat)
    case atStart => exact ⟨i, i + 1, l, rfl, by go_num, Nat.le_refl _, by omega, HST, own_ext HO.out hx1, grown_ext (grown_refl w _) hx1⟩
    case round =>
      obtain ⟨k, j, r, rfl, rfl, hkj, hj, hinv, hown, hgr⟩ := hrel
      by_cases hlt : j < n
      · have hI : decide ((j : Int) < (n : Int)) = true := decide_eq_true (by omega)
        have hjl : j < l.length := by rw [HN.out]; exact hlt
        obtain ⟨r1, er⟩ := hinv.out.at hjl
        have hrl : r.length = n := by rw [hinv.out.len, HN.out]
        obtain ⟨B9, o9, e9, f0⟩ := rowQ_at (Row.of_own hown.out) hrl r1
        cases e9
        rw [er, Nat.zero_add] at f0
        have hmem : l[j] ∈ l := List.getElem_mem hjl
        obtain ⟨sa, sc, hsh, _, _⟩ := (HPS.out _ hmem).shape
        have hsk := fun h => hinv.out.skip hjl h
        have hke := fun h => hinv.out.keep hjl h
        have HSK := Lib.hid hsk
        have HKE := Lib.hid hke
        clear hsk hke er r1 hinv
        generalize l[j] = x at *
        obtain ⟨sn, hsn⟩ : ∃ sn, sn = x.p.length := ⟨_, rfl⟩
        rw [← hsn] at hsh
        have HSH := Lib.hid hsh
        rw [hsh] at f0
        clear hsn
        have hcall := HC.out wr x hgr.out hmem
        rw [hsh] at hcall
        clear hsh
        have hown1 := hown
        have hgr1 := hgr
        have HCALL := Lib.hid hcall
        clear hcall hmem
        cases hE : p x with
        | true =>
          have HE := Lib.hid hE
          have hinv2 := Lib.hid (HSK.out hE)
          clear hE HSK HKE
          go_wp2_with (go_at_fn G; refine HCALL.out.mono ?_; rw [HE.out]; rintro e w2 ⟨rfl, hx2⟩)
          go_roundw
          case rel => exact ⟨k, j + 1, r, rfl, by go_num, by omega, hlt, hinv2, own_ext hown1.out hx2, grown_ext hgr1.out hx2⟩
          case measure => simp [intOf]; omega
        | false =>
          have HE := Lib.hid hE
          have hinv2 := Lib.hid (HKE.out hE)
          clear hE HSK HKE
          have hkr : k < r.length := by omega
          have hkn : k < n := by omega
          go_upto_region 9 with (go_at_fn G; refine HCALL.out.mono ?_; rw [HE.out]; rintro e w2 ⟨rfl, hx2⟩)
          have hown2 := own_ext hown1.out hx2
          have hth := own_there hown2 k 1 (by omega)
          obtain ⟨hu8, hz9⟩ := hth 0 (by decide)
          obtain ⟨u9, hu9⟩ := Option.isSome_iff_exists.1 hu8
          clear hu8
          rw [Nat.mul_one, Nat.add_zero] at hu9 hz9
          have hset3 := own_set ppC ppC_len hown2 k hkr x
          have e3 : w2.setCells g (k * 1) (ppC x) = w2.setCell ⟨g, k, none⟩ (.slice sa sn sc) := by rw [Nat.mul_one]; unfold ppC; rw [HSH.out]; rfl
          rw [e3] at hset3
          have hgr2 := Lib.hid (grown_ext hgr1.out hx2)
          have HS3 := Lib.hid hset3.1
          have HG3 := Lib.hid hset3.2
          clear hset3 hown2 hx2 e3 hth
          go_wp2_with fail
          go_roundw
          case rel => exact ⟨k + 1, j + 1, r.set k x, by go_num, by go_num, by omega, hlt, hinv2, HS3.out, hgr2.out.trans HG3.out⟩
          case measure => simp [intOf]; omega
      · obtain rfl : j = n := by omega
        have hI : decide ((j : Int) < (j : Int)) = false := decide_eq_false (by omega)
        have hdone := hinv.out
        rw [← HN.out] at hdone
        obtain ⟨ht, hlen⟩ := hdone.done
        have hkn : k < j := by omega
        have hkc : ¬ cap = k := by omega
        have hkc2 : k ≤ cap := by omega
        have hcl := run_clear_tail hown.out 22 (.slice none 0 0) rfl (by simp [Value.cells, Value.oneCell']) Tryz.underlying22 zeroQ k (cap - k) hkn
        rw [Nat.mul_one] at hcl
        have hfin := own_clear_tail hown.out (Nat.le_of_lt hkn) (.slice none 0 0) rfl
        have hres : Hid ((r.flatMap ppC).take k = (l.filter fun x => !p x).flatMap ppC) := by
          have h := flat_take ppC 1 ppC_len r k
          rw [Nat.mul_one] at h
          show _ = _; rw [h, ht]
        rw [Nat.mul_one] at hfin
        have HL := Lib.hid hlen
        have HF := Lib.hid hfin
        generalize wr.setCells g k (Builtin.zeroCells (Value.slice none 0 0).cells (j - k)).toList = wz at *
        clear ht hlen hfin hinv hdone
        go_wp2_with fail
        go_ret
        refine ⟨_, rfl, ?_, hgr.out.trans HF.out.2⟩
        rw [HL.out, ← hres.out]
        exact HF.out.1
end Go.Proofs.YtlhbpflcffjhmaaGreat

namespace Go.Proofs.YtlhbpflcffjhmaaGreat
open Go.RowKit

theorem bytes_vals : ∀ a b : List UInt8, Lib.compareBytes a b = -1 ∨ Lib.compareBytes a b = 0 ∨ Lib.compareBytes a b = 1
  | [], [] => .inr (.inl rfl)
  | [], _ :: _ => .inl rfl
  | _ :: _, [] => .inr (.inr rfl)
  | a :: x, b :: y => by
    simp only [Lib.compareBytes]
    split
    · exact .inl rfl
    · split
      · exact .inr (.inr rfl)
      · exact bytes_vals x y
theorem bytes_cases (a b : List UInt8) : (Lib.compareBytes a b = -1 ∧ Op.bytesLess a b = true ∧ (a == b) = false) ∨ (a = b ∧ Lib.compareBytes a b = 0 ∧ Op.bytesLess a b = false) ∨ (Lib.compareBytes a b = 1 ∧ Op.bytesLess a b = false ∧ (a == b) = false) := by
  have hne : Lib.compareBytes a b ≠ 0 → (a == b) = false := fun h => beq_eq_false_iff_ne.2 (fun e => h (by rw [e]; exact wo_bytes.refl b))
  have hlt : ¬ Lib.compareBytes a b < 0 → Op.bytesLess a b = false := fun h => by
    cases hb : Op.bytesLess a b with
    | false => rfl
    | true => exact absurd ((bl_lt a b).1 hb) h
  rcases bytes_vals a b with h | h | h
  · exact .inl ⟨h, (bl_lt a b).2 (by omega), hne (by omega)⟩
  · exact .inr (.inl ⟨bytes_zero h, h, hlt (by omega)⟩)
  · exact .inr (.inr ⟨h, hlt (by omega), hne (by omega)⟩)

set_option maxRecDepth 100000 in
set_option maxHeartbeats 4000000 in
theorem rcompare_any (w : World) (ak an bk bn : Int) (sa sb : List UInt8) (ab bb : Bool) :
    Calls Tryz.prog 215 #[.agg #[.int .i64 ak, .int .i64 an, .string (strOf sa), .bool ab], .agg #[.int .i64 bk, .int .i64 bn, .string (strOf sb), .bool bb]] w
      fun e w' => e = .returned (.int .i64 (cmpV ⟨ak, an, sa, ab⟩ ⟨bk, bn, sb, bb⟩)) ∧ Grew w w' := by
  by_cases hk : ak = bk
  · subst hk
    by_cases h1 : ak = 1
    · subst h1
      have e : cmpV ⟨1, an, sa, ab⟩ ⟨1, bn, sb, bb⟩ = Lib.compareInt an bn := rfl
      rw [e]
      clear e
      rcases Int.lt_trichotomy an bn with h | h | h
      · have e : Lib.compareInt an bn = -1 := by unfold Lib.compareInt; rw [if_pos h]
        rw [e]
        have d1 : decide (an < bn) = true := decide_eq_true h
        have d2 : decide (bn < an) = false := decide_eq_false (by omega)
        clear e h
        go_enter Tryz.func215, Tryz.ntmps215
        go_wp2
        go_ret
        exact ⟨rfl, ((Grew.refl w).alloc _).alloc _⟩
      · subst h
        have e : Lib.compareInt an an = 0 := wo_int.refl an
        rw [e]
        clear e
        go_enter Tryz.func215, Tryz.ntmps215
        go_wp2
        go_ret
        exact ⟨rfl, ((Grew.refl w).alloc _).alloc _⟩
      · have e : Lib.compareInt an bn = 1 := by unfold Lib.compareInt; rw [if_neg (by omega), if_pos h]
        rw [e]
        have d1 : decide (an < bn) = false := decide_eq_false (by omega)
        have d2 : decide (bn < an) = true := decide_eq_true h
        clear e h
        go_enter Tryz.func215, Tryz.ntmps215
        go_wp2
        go_ret
        exact ⟨rfl, ((Grew.refl w).alloc _).alloc _⟩
    · have d1 := beq_int_ne h1
      by_cases h2 : ak = 2
      · subst h2
        have e : cmpV ⟨2, an, sa, ab⟩ ⟨2, bn, sb, bb⟩ = Lib.compareBytes sa sb := rfl
        rw [e]
        clear e d1 h1
        rcases bytes_cases sa sb with ⟨e, d1, d2⟩ | ⟨h, e, d1⟩ | ⟨e, d1, d2⟩
        · rw [e]
          clear e
          go_enter Tryz.func215, Tryz.ntmps215
          go_wp2
          go_ret
          exact ⟨rfl, ((Grew.refl w).alloc _).alloc _⟩
        · subst h
          rw [e]
          have d2 : (sa == sa) = true := beq_self_eq_true sa
          clear e
          go_enter Tryz.func215, Tryz.ntmps215
          go_wp2
          go_ret
          exact ⟨rfl, ((Grew.refl w).alloc _).alloc _⟩
        · rw [e]
          clear e
          go_enter Tryz.func215, Tryz.ntmps215
          go_wp2
          go_ret
          exact ⟨rfl, ((Grew.refl w).alloc _).alloc _⟩
      · have d2 := beq_int_ne h2
        by_cases h3 : ak = 3
        · subst h3
          have e : cmpV ⟨3, an, sa, ab⟩ ⟨3, bn, sb, bb⟩ = cmpB ab bb := rfl
          rw [e]
          clear e d1 h1 d2 h2
          cases ab <;> cases bb
          all_goals
            go_enter Tryz.func215, Tryz.ntmps215
            go_wp2
            go_ret
            exact ⟨rfl, ((Grew.refl w).alloc _).alloc _⟩
        · have d3 := beq_int_ne h3
          have e : cmpV ⟨ak, an, sa, ab⟩ ⟨ak, bn, sb, bb⟩ = 0 := by unfold cmpV; rw [if_pos rfl, if_neg h1, if_neg h2, if_neg h3]
          rw [e]
          clear e h1 h2 h3
          go_enter Tryz.func215, Tryz.ntmps215
          go_wp2
          go_ret
          exact ⟨rfl, ((Grew.refl w).alloc _).alloc _⟩
  · have e : cmpV ⟨ak, an, sa, ab⟩ ⟨bk, bn, sb, bb⟩ = Lib.compareInt ak bk := by unfold cmpV; rw [if_neg hk]
    rw [e]
    have d1 : (ak != bk) = true := by simp [hk]
    clear e
    rcases Int.lt_or_gt_of_ne hk with h | h
    · have e : Lib.compareInt ak bk = -1 := by unfold Lib.compareInt; rw [if_pos h]
      rw [e]
      have d2 : decide (ak < bk) = true := decide_eq_true h
      clear e h hk
      go_enter Tryz.func215, Tryz.ntmps215
      go_wp2
      go_ret
      exact ⟨rfl, ((Grew.refl w).alloc _).alloc _⟩
    · have e : Lib.compareInt ak bk = 1 := by unfold Lib.compareInt; rw [if_neg (by omega), if_pos h]
      rw [e]
      have d2 : decide (ak < bk) = false := decide_eq_false (by omega)
      clear e h hk
      go_enter Tryz.func215, Tryz.ntmps215
      go_wp2
      go_ret
      exact ⟨rfl, ((Grew.refl w).alloc _).alloc _⟩

end Go.Proofs.YtlhbpflcffjhmaaGreat

namespace Go.Proofs.YtlhbpflcffjhmaaGreat
open Go.RowKit

/-- A constraint's box: its seven cells. -/
structure CBox (W : World) (B : Nat) (c : C) (sa : Option Addr) (sc : Nat) : Prop where
  b : W.heap[B]? = some (.cells #[.string (strOf c.name), .int .i64 c.op, .int .i64 c.v.k, .int .i64 c.v.n, .string (strOf c.v.s), .bool c.v.b, .slice sa c.set.length sc] 64 (0, 0))
  s : SetR W (.slice sa c.set.length sc) c.set
theorem CBox.ext {W W' : World} {B : Nat} {c : C} {sa : Option Addr} {sc : Nat} (h : CBox W B c sa sc) (hx : Ext W W') : CBox W' B c sa sc :=
  ⟨by rw [hx.block B (Array.getElem?_eq_some_iff.1 h.b).1]; exact h.b, h.s.ext hx⟩
theorem CBox.cell {W : World} {B : Nat} {c : C} {sa : Option Addr} {sc : Nat} (h : CBox W B c sa sc) :
    W.cell? ⟨B, 0, none⟩ = some (.string (strOf c.name)) ∧ W.cell? ⟨B, 1, none⟩ = some (.int .i64 c.op) ∧ W.cell? ⟨B, 2, none⟩ = some (.int .i64 c.v.k) ∧ W.cell? ⟨B, 3, none⟩ = some (.int .i64 c.v.n) ∧ W.cell? ⟨B, 4, none⟩ = some (.string (strOf c.v.s)) ∧ W.cell? ⟨B, 5, none⟩ = some (.bool c.v.b) ∧ W.cell? ⟨B, 6, none⟩ = some (.slice sa c.set.length sc) :=
  ⟨cell_of_row W B 0 _ _ _ h.b, cell_of_row W B 1 _ _ _ h.b, cell_of_row W B 2 _ _ _ h.b, cell_of_row W B 3 _ _ _ h.b, cell_of_row W B 4 _ _ _ h.b, cell_of_row W B 5 _ _ _ h.b, cell_of_row W B 6 _ _ _ h.b⟩

theorem hasp_any (a b : List UInt8) (w : World) : Calls Tryz.prog 189 #[.string (strOf a), .string (strOf b)] w fun e w' => e = .returned (.bool (Lib.hasPrefix a b)) ∧ w = w' :=
  (Tryz.strings_HasPrefix (strOf a) (strOf b) w).mono fun _ _ ⟨he, hw⟩ => ⟨he, hw.symm⟩

theorem ent98 : ∀ args w, (callFunc 180 args).run Tryz.prog w = .ok (.enter 180 args) w := enters_of Tryz.func180 (by kernel_rfl) rfl
theorem ent99 : ∀ args w, (callFunc 181 args).run Tryz.prog w = .ok (.enter 181 args) w := enters_of Tryz.func181 (by kernel_rfl) rfl
theorem ent106 : ∀ args w, (callFunc 188 args).run Tryz.prog w = .ok (.enter 188 args) w := enters_of Tryz.func188 (by kernel_rfl) rfl
theorem ent108 : ∀ args w, (callFunc 190 args).run Tryz.prog w = .ok (.enter 190 args) w := enters_of Tryz.func190 (by kernel_rfl) rfl
theorem ent109 : ∀ args w, (callFunc 191 args).run Tryz.prog w = .ok (.enter 191 args) w := enters_of Tryz.func191 (by kernel_rfl) rfl
theorem ent110 : ∀ args w, (callFunc 192 args).run Tryz.prog w = .ok (.enter 192 args) w := enters_of Tryz.func192 (by kernel_rfl) rfl

/-- A test of a comparison. -/
def tst (q : Nat) (n : Int) : Bool := if q = 182 then decide (n = 0) else if q = 183 then !decide (n = 0) else if q = 184 then decide (n < 0) else if q = 185 then decide (n ≤ 0) else if q = 186 then decide (0 < n) else decide (0 ≤ n)
theorem beq_dec (n : Int) : (n == 0) = decide (n = 0) := by by_cases h : n = 0 <;> simp [h]
theorem tst_any (q : Nat) (hq : q = 182 ∨ q = 183 ∨ q = 184 ∨ q = 185 ∨ q = 186 ∨ q = 187) (n : Int) (w : World) : Calls Tryz.prog q #[.int .i64 n] w fun e w' => e = .returned (.bool (tst q n)) ∧ w = w' := by
  rcases hq with rfl | rfl | rfl | rfl | rfl | rfl
  · go_enter Tryz.func182, Tryz.ntmps182
    go_wp2
    go_ret
    exact ⟨by show _ = Ending.returned (.bool (decide (n = 0))); rw [← beq_dec]; rfl, rfl⟩
  · go_enter Tryz.func183, Tryz.ntmps183
    go_wp2
    go_ret
    exact ⟨by show _ = Ending.returned (.bool (!decide (n = 0))); rw [← beq_dec]; rfl, rfl⟩
  · go_enter Tryz.func184, Tryz.ntmps184
    go_wp2
    go_ret
    exact ⟨rfl, rfl⟩
  · go_enter Tryz.func185, Tryz.ntmps185
    go_wp2
    go_ret
    exact ⟨rfl, rfl⟩
  · go_enter Tryz.func186, Tryz.ntmps186
    go_wp2
    go_ret
    exact ⟨rfl, rfl⟩
  · go_enter Tryz.func187, Tryz.ntmps187
    go_wp2
    go_ret
    exact ⟨rfl, rfl⟩
theorem ent_tst (q : Nat) (hq : q = 182 ∨ q = 183 ∨ q = 184 ∨ q = 185 ∨ q = 186 ∨ q = 187) : ∀ args w, (callFunc q args).run Tryz.prog w = .ok (.enter q args) w := by
  rcases hq with rfl | rfl | rfl | rfl | rfl | rfl
  · exact enters_of Tryz.func182 (by kernel_rfl) rfl
  · exact enters_of Tryz.func183 (by kernel_rfl) rfl
  · exact enters_of Tryz.func184 (by kernel_rfl) rfl
  · exact enters_of Tryz.func185 (by kernel_rfl) rfl
  · exact enters_of Tryz.func186 (by kernel_rfl) rfl
  · exact enters_of Tryz.func187 (by kernel_rfl) rfl

set_option maxRecDepth 100000 in
set_option maxHeartbeats 2000000 in
/-- The comparing closure. -/
theorem asks98_any (w : World) (B F q : Nat) (c : C) (sa : Option Addr) (sc : Nat) (hb : CBox w B c sa sc) (hf : w.cell? ⟨F, 0, none⟩ = some (.func (.func q) #[] #[])) (hq : q = 182 ∨ q = 183 ∨ q = 184 ∨ q = 185 ∨ q = 186 ∨ q = 187) (k n : Int) (s : List UInt8) (b : Bool) :
    Calls Tryz.prog 180 #[.agg #[.int .i64 k, .int .i64 n, .string (strOf s), .bool b], .pointer (some ⟨B, 0, none⟩), .pointer (some ⟨F, 0, none⟩)] w
      fun e w' => e = .returned (.bool (decide (k = c.v.k) && tst q (cmpV ⟨k, n, s, b⟩ c.v))) ∧ Ext w w' := by
  have hx0 : Ext w (w.alloc (.cells #[.int .i64 k, .int .i64 n, .string (strOf s), .bool b] 61)) := (Ext.refl w).alloc _
  have hN : (w.alloc (.cells #[.int .i64 k, .int .i64 n, .string (strOf s), .bool b] 61)).heap[w.heap.size]? = some (.cells #[.int .i64 k, .int .i64 n, .string (strOf s), .bool b] 61 (0, 0)) := heap_alloc_new _ _
  have n0 := cell_of_row _ _ 0 _ _ _ hN
  have n1 := cell_of_row _ _ 1 _ _ _ hN
  have n2 := cell_of_row _ _ 2 _ _ _ hN
  have n3 := cell_of_row _ _ 3 _ _ _ hN
  obtain ⟨c0, c1, c2, c3, c4, c5, c6⟩ := (hb.ext hx0).cell
  have hf0 := hx0.cell hf
  have eq_ := ent_tst q hq
  by_cases hk : k = c.v.k
  · have e : (decide (k = c.v.k) && tst q (cmpV ⟨k, n, s, b⟩ c.v)) = tst q (cmpV ⟨k, n, s, b⟩ ⟨c.v.k, c.v.n, c.v.s, c.v.b⟩) := by rw [decide_eq_true hk]; rfl
    rw [e]
    clear e
    have hd : (k == c.v.k) = true := beq_iff_eq.2 hk
    clear hk hN c0 c1 c6
    go_enter Tryz.func180, Tryz.ntmps180
    go_upto_region 1 with fail
    generalize w.alloc (.cells #[.int .i64 k, .int .i64 n, .string (strOf s), .bool b] 61) = wa at *
    have hxd : Ext wa wa.drew := (Ext.refl wa).drew
    have m0 := hxd.cell n0
    have m1 := hxd.cell n1
    have m2 := hxd.cell n2
    have m3 := hxd.cell n3
    have d2 := hxd.cell c2
    have d3 := hxd.cell c3
    have d4 := hxd.cell c4
    have d5 := hxd.cell c5
    have df := hxd.cell hf0
    go_region_law (first | (go_simp; go_at_call 61; refine (compare_any _ _ _ _ _ _ _ _ _).mono ?_; rintro e w2 ⟨rfl, hx2⟩; have df2 := hx2.1.cell df) | (go_simp; go_at_fn q; refine (tst_any q hq _ _).mono ?_; rintro e w3 ⟨rfl, rfl⟩))
    all_goals
      go_wp2_with fail
      go_ret
      exact ⟨rfl, hx0.trans (hxd.trans hx2.1)⟩
  · have e : (decide (k = c.v.k) && tst q (cmpV ⟨k, n, s, b⟩ c.v)) = false := by rw [decide_eq_false hk]; rfl
    rw [e]
    clear e
    have hd : (k == c.v.k) = false := beq_eq_false_iff_ne.2 hk
    clear hk hN c0 c1 c6
    go_enter Tryz.func180, Tryz.ntmps180
    go_upto_region 1 with fail
    generalize w.alloc (.cells #[.int .i64 k, .int .i64 n, .string (strOf s), .bool b] 61) = wa at *
    go_quiet (fail)
    go_wp2_with fail
    go_ret
    exact ⟨rfl, hx0.drewN _⟩

set_option maxRecDepth 100000 in
set_option maxHeartbeats 2000000 in
/-- The prefix's closure. -/
theorem asks106_any (w : World) (B : Nat) (c : C) (sa : Option Addr) (sc : Nat) (hb : CBox w B c sa sc) (k n : Int) (s : List UInt8) (b : Bool) :
    Calls Tryz.prog 188 #[.agg #[.int .i64 k, .int .i64 n, .string (strOf s), .bool b], .pointer (some ⟨B, 0, none⟩)] w
      fun e w' => e = .returned (.bool (decide (k = 2) && (decide (c.v.k = 2) && Lib.hasPrefix s c.v.s))) ∧ Ext w w' := by
  have hx0 : Ext w (w.alloc (.cells #[.int .i64 k, .int .i64 n, .string (strOf s), .bool b] 61)) := (Ext.refl w).alloc _
  obtain ⟨c0, c1, c2, c3, c4, c5, c6⟩ := (hb.ext hx0).cell
  by_cases hk : k = 2
  · subst hk
    by_cases hk2 : c.v.k = 2
    · rw [hk2] at c2
      have e : (decide ((2 : Int) = 2) && (decide (c.v.k = 2) && Lib.hasPrefix s c.v.s)) = Lib.hasPrefix s c.v.s := by rw [decide_eq_true rfl, decide_eq_true hk2]; rfl
      rw [e]
      clear e hk2
      generalize c.v.s = t at *
      go_enter Tryz.func188, Tryz.ntmps188
      go_wp2_with (go_at_call 189; refine (hasp_any _ _ _).mono ?_; rintro e w' ⟨rfl, rfl⟩)
      go_ret
      exact ⟨rfl, hx0⟩
    · have e : (decide ((2 : Int) = 2) && (decide (c.v.k = 2) && Lib.hasPrefix s c.v.s)) = false := by rw [decide_eq_false hk2]; rfl
      rw [e]
      have hd : (c.v.k == 2) = false := beq_eq_false_iff_ne.2 hk2
      clear e hk2
      go_enter Tryz.func188, Tryz.ntmps188
      go_wp2_with fail
      go_ret
      exact ⟨rfl, hx0⟩
  · have e : (decide (k = 2) && (decide (c.v.k = 2) && Lib.hasPrefix s c.v.s)) = false := by rw [decide_eq_false hk]; rfl
    rw [e]
    have hd : (k == 2) = false := beq_eq_false_iff_ne.2 hk
    clear e hk
    go_enter Tryz.func188, Tryz.ntmps188
    go_wp2_with fail
    go_ret
    exact ⟨rfl, hx0⟩

set_option maxRecDepth 100000 in
set_option maxHeartbeats 2000000 in
/-- One of a set: the inner closure. -/
theorem asks109_any (w : World) (B : Nat) (v : V) (h0 : w.heap[B]? = some (.cells #[.int .i64 v.k, .int .i64 v.n, .string (strOf v.s), .bool v.b] 61 (0, 0))) (x : V) :
    Calls Tryz.prog 191 #[.agg #[.int .i64 x.k, .int .i64 x.n, .string (strOf x.s), .bool x.b], .pointer (some ⟨B, 0, none⟩)] w
      fun e w' => e = .returned (.bool (decide (cmpV v x = 0))) ∧ Ext w w' := by
  have hx0 : Ext w (w.alloc (.cells #[.int .i64 x.k, .int .i64 x.n, .string (strOf x.s), .bool x.b] 61)) := (Ext.refl w).alloc _
  have c0 := hx0.cell (cell_of_row w B 0 _ _ _ h0)
  have c1 := hx0.cell (cell_of_row w B 1 _ _ _ h0)
  have c2 := hx0.cell (cell_of_row w B 2 _ _ _ h0)
  have c3 := hx0.cell (cell_of_row w B 3 _ _ _ h0)
  have hres := Lib.hid (beq_dec (cmpV v x))
  have hcmp := fun W => compare_any W v.k v.n x.k x.n v.s x.s v.b x.b
  clear h0
  change ∀ W, Calls Tryz.prog 61 _ W fun e w' => e = .returned (.int .i64 (cmpV v x)) ∧ Grew W w' at hcmp
  generalize cmpV v x = r at *
  go_enter Tryz.func191, Tryz.ntmps191
  go_wp2_with (go_at_call 61; refine (hcmp _).mono ?_; rintro e w' ⟨rfl, hx⟩)
  go_ret
  exact ⟨by rw [← hres.out]; rfl, hx0.trans hx.1⟩

set_option maxRecDepth 100000 in
set_option maxHeartbeats 2000000 in
/-- One of a set. -/
theorem asks108_any (w : World) (B : Nat) (c : C) (sa : Option Addr) (sc : Nat) (hb : CBox w B c sa sc) (v : V) :
    Calls Tryz.prog 190 #[.agg #[.int .i64 v.k, .int .i64 v.n, .string (strOf v.s), .bool v.b], .pointer (some ⟨B, 0, none⟩)] w
      fun e w' => e = .returned (.bool (c.set.any fun x => decide (cmpV v x = 0))) ∧ Ext w w' := by
  have hx0 : Ext w (w.alloc (.cells #[.int .i64 v.k, .int .i64 v.n, .string (strOf v.s), .bool v.b] 61)) := (Ext.refl w).alloc _
  have hN : (w.alloc (.cells #[.int .i64 v.k, .int .i64 v.n, .string (strOf v.s), .bool v.b] 61)).heap[w.heap.size]? = some (.cells #[.int .i64 v.k, .int .i64 v.n, .string (strOf v.s), .bool v.b] 61 (0, 0)) := heap_alloc_new _ _
  obtain ⟨c0, c1, c2, c3, c4, c5, c6⟩ := (hb.ext hx0).cell
  have hs := hb.s.ext hx0
  have hcon := hasV_any _ _ _ hs 191 #[.pointer (some ⟨w.heap.size, 0, none⟩)] (fun x => decide (cmpV v x = 0)) ent109 (fun W x hx _ => asks109_any W w.heap.size v (by rw [hx.block _ (Array.getElem?_eq_some_iff.1 hN).1]; exact hN) x)
  clear hN hb hs c0 c1 c2 c3 c4 c5
  generalize (c.set.any fun x => decide (cmpV v x = 0)) = r at *
  go_enter Tryz.func190, Tryz.ntmps190
  go_wp2_with (go_at_call 87; refine hcon.mono ?_; rintro e w' ⟨rfl, hx⟩)
  go_ret
  exact ⟨rfl, hx0.trans hx⟩

/-- What pred.asks gives: a function that tells whether the constraint holds. -/
def AskEnd (w : World) (c : C) (e : Ending) (W : World) : Prop :=
  ∃ (g : Nat) (cb : Array Value), e = .returned (.func (.func g) #[] cb) ∧ (∀ args w, (callFunc g args).run Tryz.prog w = .ok (.enter g args) w) ∧ Ext w W ∧
    ∀ (W' : World) (v : V), Ext W W' → Calls Tryz.prog g (#[.agg #[.int .i64 v.k, .int .i64 v.n, .string (strOf v.s), .bool v.b]] ++ cb) W' fun e W2 => e = .returned (.bool (holdsC c v)) ∧ Ext W' W2

theorem holds_tst {c : C} {v : V} {q : Nat} (h : c.op = 2 ∧ q = 182 ∨ c.op = 3 ∧ q = 183 ∨ c.op = 4 ∧ q = 184 ∨ c.op = 5 ∧ q = 185 ∨ c.op = 6 ∧ q = 186 ∨ c.op = 7 ∧ q = 187) : holdsC c v = (decide (v.k = c.v.k) && tst q (cmpV v c.v)) := by
  unfold holdsC tst
  rcases h with ⟨h, rfl⟩ | ⟨h, rfl⟩ | ⟨h, rfl⟩ | ⟨h, rfl⟩ | ⟨h, rfl⟩ | ⟨h, rfl⟩ <;> rw [h] <;> by_cases hk : v.k = c.v.k <;> simp [hk]
theorem holds_pre {c : C} {v : V} (h : c.op = 8) : holdsC c v = (decide (v.k = 2) && (decide (c.v.k = 2) && Lib.hasPrefix v.s c.v.s)) := by
  unfold holdsC Lib.hasPrefix
  rw [h]
  by_cases h1 : v.k = 2
  · by_cases h2 : c.v.k = 2
    · simp [h1, h2]
    · have : ¬ v.k = c.v.k := by omega
      simp [h2]
      intro e; omega
  · by_cases h2 : v.k = c.v.k
    · simp only [if_pos h2]; rw [← h2]; simp [h1]
    · simp [h1, h2]

end Go.Proofs.YtlhbpflcffjhmaaGreat

namespace Go.Proofs.YtlhbpflcffjhmaaGreat
open Go.RowKit

set_option maxRecDepth 100000 in
set_option maxHeartbeats 4000000 in
theorem asks_any (w : World) (c : C) (sa : Option Addr) (sc : Nat) (hs : SetR w (.slice sa c.set.length sc) c.set) :
    Calls Tryz.prog 137 #[.agg #[.string (strOf c.name), .int .i64 c.op, .int .i64 c.v.k, .int .i64 c.v.n, .string (strOf c.v.s), .bool c.v.b, .slice sa c.set.length sc]] w (AskEnd w c) := by
  have hx0 : Ext w (w.alloc (.cells #[.string (strOf c.name), .int .i64 c.op, .int .i64 c.v.k, .int .i64 c.v.n, .string (strOf c.v.s), .bool c.v.b, .slice sa c.set.length sc] 64)) := (Ext.refl w).alloc _
  have hB : CBox (w.alloc (.cells #[.string (strOf c.name), .int .i64 c.op, .int .i64 c.v.k, .int .i64 c.v.n, .string (strOf c.v.s), .bool c.v.b, .slice sa c.set.length sc] 64)) w.heap.size c sa sc := ⟨heap_alloc_new _ _, hs.ext hx0⟩
  obtain ⟨c0, c1, c2, c3, c4, c5, c6⟩ := hB.cell
  clear c0 c2 c3 c4 c5 c6
  -- the comparing ones
  have hcmp : ∀ q, (q = 182 ∨ q = 183 ∨ q = 184 ∨ q = 185 ∨ q = 186 ∨ q = 187) → (∀ v, holdsC c v = (decide (v.k = c.v.k) && tst q (cmpV v c.v))) → ∀ (W : World) (F : Nat), Ext w W → CBox W w.heap.size c sa sc → W.cell? ⟨F, 0, none⟩ = some (.func (.func q) #[] #[]) → AskEnd w c (.returned (.func (.func 180) #[] #[.pointer (some ⟨w.heap.size, 0, none⟩), .pointer (some ⟨F, 0, none⟩)])) W := fun q hq hh W F hx hb hf =>
    ⟨180, _, rfl, ent98, hx, fun W' v hx' => by rw [hh v]; exact asks98_any W' w.heap.size F q c sa sc (hb.ext hx') (hx'.cell hf) hq v.k v.n v.s v.b⟩
  have HCMP := Lib.hid hcmp
  clear hcmp
  have hB0 := hB
  have hnew : ∀ q, Ext w ((w.alloc (.cells #[.string (strOf c.name), .int .i64 c.op, .int .i64 c.v.k, .int .i64 c.v.n, .string (strOf c.v.s), .bool c.v.b, .slice sa c.set.length sc] 64)).alloc (.cells #[.func (.func q) #[] #[]] 145)) ∧ CBox ((w.alloc (.cells #[.string (strOf c.name), .int .i64 c.op, .int .i64 c.v.k, .int .i64 c.v.n, .string (strOf c.v.s), .bool c.v.b, .slice sa c.set.length sc] 64)).alloc (.cells #[.func (.func q) #[] #[]] 145)) w.heap.size c sa sc ∧ ((w.alloc (.cells #[.string (strOf c.name), .int .i64 c.op, .int .i64 c.v.k, .int .i64 c.v.n, .string (strOf c.v.s), .bool c.v.b, .slice sa c.set.length sc] 64)).alloc (.cells #[.func (.func q) #[] #[]] 145)).cell? ⟨w.heap.size + 1, 0, none⟩ = some (.func (.func q) #[] #[]) := fun q =>
    ⟨hx0.alloc _, hB.ext ((Ext.refl _).alloc _), by have h := cell_of_row (_ : World) (_ : Nat) 0 _ _ _ (heap_alloc_new (w.alloc (.cells #[.string (strOf c.name), .int .i64 c.op, .int .i64 c.v.k, .int .i64 c.v.n, .string (strOf c.v.s), .bool c.v.b, .slice sa c.set.length sc] 64)) (.cells #[.func (.func q) #[] #[]] 145)); rw [World.size_alloc] at h; exact h⟩
  have HNEW := Lib.hid hnew
  clear hnew
  by_cases h1 : c.op = 1
  · have hh : ∀ v, holdsC c v = true := fun v => by unfold holdsC; rw [if_pos h1]
    have d1 : (c.op == 1) = true := beq_iff_eq.2 h1
    have HH := Lib.hid hh
    clear h1 hh
    go_enter Tryz.func137, Tryz.ntmps137
    go_wp2_with go_in
    go_ret
    refine ⟨181, #[], rfl, ent99, hx0, fun W' v _ => ?_⟩
    rw [HH.out v]
    clear HH HNEW HCMP hB hB0 c1 hs hx0
    go_enter Tryz.func181, Tryz.ntmps181
    go_wp2
    go_ret
    exact ⟨rfl, (Ext.refl _).alloc _⟩
  have d1 := beq_int_ne h1
  by_cases h2 : c.op = 2
  · have d2 : (c.op == 2) = true := beq_iff_eq.2 h2
    have HF := Lib.hid (HCMP.out 182 (by decide) (fun v => holds_tst (by simp [h2])) _ _ (HNEW.out 182).1 (HNEW.out 182).2.1 (HNEW.out 182).2.2)
    clear h2 
    go_enter Tryz.func137, Tryz.ntmps137
    go_wp2_with go_in
    go_ret
    exact HF.out
  have d2 := beq_int_ne h2
  by_cases h3 : c.op = 3
  · have d3 : (c.op == 3) = true := beq_iff_eq.2 h3
    have HF := Lib.hid (HCMP.out 183 (by decide) (fun v => holds_tst (by simp [h3])) _ _ (HNEW.out 183).1 (HNEW.out 183).2.1 (HNEW.out 183).2.2)
    clear h3 
    go_enter Tryz.func137, Tryz.ntmps137
    go_wp2_with go_in
    go_ret
    exact HF.out
  have d3 := beq_int_ne h3
  by_cases h4 : c.op = 4
  · have d4 : (c.op == 4) = true := beq_iff_eq.2 h4
    have HF := Lib.hid (HCMP.out 184 (by decide) (fun v => holds_tst (by simp [h4])) _ _ (HNEW.out 184).1 (HNEW.out 184).2.1 (HNEW.out 184).2.2)
    clear h4 
    go_enter Tryz.func137, Tryz.ntmps137
    go_wp2_with go_in
    go_ret
    exact HF.out
  have d4 := beq_int_ne h4
  by_cases h5 : c.op = 5
  · have d5 : (c.op == 5) = true := beq_iff_eq.2 h5
    have HF := Lib.hid (HCMP.out 185 (by decide) (fun v => holds_tst (by simp [h5])) _ _ (HNEW.out 185).1 (HNEW.out 185).2.1 (HNEW.out 185).2.2)
    clear h5 
    go_enter Tryz.func137, Tryz.ntmps137
    go_wp2_with go_in
    go_ret
    exact HF.out
  have d5 := beq_int_ne h5
  by_cases h6 : c.op = 6
  · have d6 : (c.op == 6) = true := beq_iff_eq.2 h6
    have HF := Lib.hid (HCMP.out 186 (by decide) (fun v => holds_tst (by simp [h6])) _ _ (HNEW.out 186).1 (HNEW.out 186).2.1 (HNEW.out 186).2.2)
    clear h6 
    go_enter Tryz.func137, Tryz.ntmps137
    go_wp2_with go_in
    go_ret
    exact HF.out
  have d6 := beq_int_ne h6
  by_cases h7 : c.op = 7
  · have d7 : (c.op == 7) = true := beq_iff_eq.2 h7
    have HF := Lib.hid (HCMP.out 187 (by decide) (fun v => holds_tst (by simp [h7])) _ _ (HNEW.out 187).1 (HNEW.out 187).2.1 (HNEW.out 187).2.2)
    clear h7 
    go_enter Tryz.func137, Tryz.ntmps137
    go_wp2_with go_in
    go_ret
    exact HF.out
  have d7 := beq_int_ne h7
  by_cases h8 : c.op = 8
  · have hh : ∀ v, holdsC c v = _ := fun v => holds_pre h8
    have d8 : (c.op == 8) = true := beq_iff_eq.2 h8
    have HH := Lib.hid hh
    clear h8 hh
    go_enter Tryz.func137, Tryz.ntmps137
    go_wp2_with go_in
    go_ret
    exact ⟨188, _, rfl, ent106, hx0, fun W' v hx' => by rw [HH.out v]; exact asks106_any W' w.heap.size c sa sc (hB0.ext hx') v.k v.n v.s v.b⟩
  have d8 := beq_int_ne h8
  by_cases h9 : c.op = 9
  · have hh : ∀ v, holdsC c v = c.set.any fun x => decide (cmpV v x = 0) := fun v => by unfold holdsC; rw [if_neg h1, if_pos h9]
    have d9 : (c.op == 9) = true := beq_iff_eq.2 h9
    have HH := Lib.hid hh
    clear h9 hh
    go_enter Tryz.func137, Tryz.ntmps137
    go_wp2_with go_in
    go_ret
    exact ⟨190, _, rfl, ent108, hx0, fun W' v hx' => by rw [HH.out v]; exact asks108_any W' w.heap.size c sa sc (hB0.ext hx') v⟩
  have d9 := beq_int_ne h9
  have hh : ∀ v, holdsC c v = false := fun v => by
    unfold holdsC
    rw [if_neg h1, if_neg h9]
    by_cases hk : v.k = c.v.k
    · rw [if_pos hk, if_neg h2, if_neg h3, if_neg h4, if_neg h5, if_neg h6, if_neg h7, if_neg h8]
    · rw [if_neg hk]
  have HH := Lib.hid hh
  clear h1 h2 h3 h4 h5 h6 h7 h8 h9 hh
  go_enter Tryz.func137, Tryz.ntmps137
  go_wp2_with go_in
  go_ret
  refine ⟨192, #[], rfl, ent110, hx0, fun W' v _ => ?_⟩
  rw [HH.out v]
  clear HH HNEW HCMP hB hB0 c1 hs hx0 d1 d2 d3 d4 d5 d6 d7 d8 d9
  go_enter Tryz.func192, Tryz.ntmps192
  go_wp2
  go_ret
  exact ⟨rfl, (Ext.refl _).alloc _⟩

end Go.Proofs.YtlhbpflcffjhmaaGreat

namespace Go.Proofs.YtlhbpflcffjhmaaGreat
open Go.RowKit

set_option maxRecDepth 100000 in
set_option maxHeartbeats 4000000 in
theorem pholds_any (w : World) (c : C) (sa : Option Addr) (sc : Nat) (hs : SetR w (.slice sa c.set.length sc) c.set) (v : V) :
    Calls Tryz.prog 103 #[.agg #[.string (strOf c.name), .int .i64 c.op, .int .i64 c.v.k, .int .i64 c.v.n, .string (strOf c.v.s), .bool c.v.b, .slice sa c.set.length sc], .agg #[.int .i64 v.k, .int .i64 v.n, .string (strOf v.s), .bool v.b]] w
      fun e w' => e = .returned (.bool (holdsC c v)) ∧ Ext w w' := by
  have hx0 : Ext w ((w.alloc (.cells #[.string (strOf c.name), .int .i64 c.op, .int .i64 c.v.k, .int .i64 c.v.n, .string (strOf c.v.s), .bool c.v.b, .slice sa c.set.length sc] 64)).alloc (.cells #[.int .i64 v.k, .int .i64 v.n, .string (strOf v.s), .bool v.b] 61)) := ((Ext.refl w).alloc _).alloc _
  have hN : ((w.alloc (.cells #[.string (strOf c.name), .int .i64 c.op, .int .i64 c.v.k, .int .i64 c.v.n, .string (strOf c.v.s), .bool c.v.b, .slice sa c.set.length sc] 64)).alloc (.cells #[.int .i64 v.k, .int .i64 v.n, .string (strOf v.s), .bool v.b] 61)).heap[w.heap.size + 1]? = some (.cells #[.int .i64 v.k, .int .i64 v.n, .string (strOf v.s), .bool v.b] 61 (0, 0)) := by
    have h := heap_alloc_new (w.alloc (.cells #[.string (strOf c.name), .int .i64 c.op, .int .i64 c.v.k, .int .i64 c.v.n, .string (strOf c.v.s), .bool c.v.b, .slice sa c.set.length sc] 64)) (.cells #[.int .i64 v.k, .int .i64 v.n, .string (strOf v.s), .bool v.b] 61)
    rw [World.size_alloc] at h; exact h
  have hB : CBox ((w.alloc (.cells #[.string (strOf c.name), .int .i64 c.op, .int .i64 c.v.k, .int .i64 c.v.n, .string (strOf c.v.s), .bool c.v.b, .slice sa c.set.length sc] 64)).alloc (.cells #[.int .i64 v.k, .int .i64 v.n, .string (strOf v.s), .bool v.b] 61)) w.heap.size c sa sc :=
    (CBox.mk (heap_alloc_new _ _) (hs.ext ((Ext.refl w).alloc _))).ext ((Ext.refl _).alloc _)
  go_enter Tryz.func103, Tryz.ntmps103
  go_upto_region 1 with fail
  generalize (w.alloc (.cells #[.string (strOf c.name), .int .i64 c.op, .int .i64 c.v.k, .int .i64 c.v.n, .string (strOf c.v.s), .bool c.v.b, .slice sa c.set.length sc] 64)).alloc (.cells #[.int .i64 v.k, .int .i64 v.n, .string (strOf v.s), .bool v.b] 61) = wa at *
  have hxd : Ext wa wa.drew := (Ext.refl wa).drew
  obtain ⟨c0, c1, c2, c3, c4, c5, c6⟩ := (hB.ext hxd).cell
  have hsd := hB.s.ext hxd
  have n0 := hxd.cell (cell_of_row _ _ 0 _ _ _ hN)
  have n1 := hxd.cell (cell_of_row _ _ 1 _ _ _ hN)
  have n2 := hxd.cell (cell_of_row _ _ 2 _ _ _ hN)
  have n3 := hxd.cell (cell_of_row _ _ 3 _ _ _ hN)
  clear hN hB
  go_region_law (first | (go_simp; go_at_call 137; refine (asks_any _ c sa sc hsd).mono ?_; rintro e w2 ⟨g, cb, rfl, eg, hx2, hcl⟩; have m0 := hx2.cell n0; have m1 := hx2.cell n1; have m2 := hx2.cell n2; have m3 := hx2.cell n3) | (go_simp; go_at_fn g; refine (hcl _ v (Ext.refl _)).mono ?_; rintro e w3 ⟨rfl, hx3⟩))
  all_goals
    go_wp2_with fail
    go_ret
    exact ⟨rfl, hx0.trans (hxd.trans (hx2.trans hx3))⟩

theorem ent113 : ∀ args w, (callFunc 136 args).run Tryz.prog w = .ok (.enter 136 args) w := enters_of Tryz.func136 (by kernel_rfl) rfl
theorem ent56 : ∀ args w, (callFunc 101 args).run Tryz.prog w = .ok (.enter 101 args) w := enters_of Tryz.func101 (by kernel_rfl) rfl

/-- What event.Get answers. -/
def getV (l : List (List UInt8 × V)) (name : List UInt8) : V × Bool := match getE l name with | some v => (v, true) | none => (⟨0, 0, [], false⟩, false)

set_option maxRecDepth 100000 in
set_option maxHeartbeats 2000000 in
theorem get113_any (w : World) (B : Nat) (name : List UInt8) (h0 : w.cell? ⟨B, 0, none⟩ = some (.string (strOf name))) (x : List UInt8 × V) :
    Calls Tryz.prog 136 #[.agg #[.string (strOf x.1), .int .i64 x.2.k, .int .i64 x.2.n, .string (strOf x.2.s), .bool x.2.b], .pointer (some ⟨B, 0, none⟩)] w
      fun e w' => e = .returned (.bool (decide (x.1 = name))) ∧ Ext w w' := by
  have hx0 : Ext w (w.alloc (.cells #[.string (strOf x.1), .int .i64 x.2.k, .int .i64 x.2.n, .string (strOf x.2.s), .bool x.2.b] 167)) := (Ext.refl w).alloc _
  have c0 := hx0.cell h0
  by_cases h : x.1 = name
  · have hd : (x.1 == name) = true := beq_iff_eq.2 h
    rw [decide_eq_true h]
    clear h h0
    go_enter Tryz.func136, Tryz.ntmps136
    go_wp2
    go_ret
    exact ⟨rfl, hx0⟩
  · have hd : (x.1 == name) = false := beq_eq_false_iff_ne.2 h
    have hne : ¬ strOf x.1 = strOf name := fun e => h (strOf_inj.1 e)
    rw [decide_eq_false h]
    clear h h0
    go_enter Tryz.func136, Tryz.ntmps136
    go_wp2
    go_ret
    exact ⟨rfl, hx0⟩

end Go.Proofs.YtlhbpflcffjhmaaGreat

namespace Go.Proofs.YtlhbpflcffjhmaaGreat
open Go.RowKit

theorem info61s : (Tryz.prog.info? 61).map (·.size) = some 4 := by kernel_rfl

set_option maxRecDepth 100000 in
set_option maxHeartbeats 4000000 in
theorem get_any (w : World) (key name : List UInt8) (va : Value) (l : List (List UInt8 × V)) (h : AttrR w va l) :
    Calls Tryz.prog 102 #[.agg #[.string (strOf key), va], .string (strOf name)] w
      fun e w' => e = .returned (.tuple #[.agg #[.int .i64 (getV l name).1.k, .int .i64 (getV l name).1.n, .string (strOf (getV l name).1.s), .bool (getV l name).1.b], .bool (getV l name).2]) ∧ Ext w w' := by
  obtain ⟨aa, ca, rfl, hca, hma⟩ := Row.shape h
  unfold maxLen at hma
  have hx0 : Ext w (((w.alloc (.cells #[.string (strOf key), .slice aa l.length ca] 52)).alloc (.cells #[.string (strOf name)] 9)).alloc (.cells #[.int .i64 0, .int .i64 0, .string ⟨#[]⟩, .bool false] 61)) := (((Ext.refl w).alloc _).alloc _).alloc _
  have h1 : (((w.alloc (.cells #[.string (strOf key), .slice aa l.length ca] 52)).alloc (.cells #[.string (strOf name)] 9)).alloc (.cells #[.int .i64 0, .int .i64 0, .string ⟨#[]⟩, .bool false] 61)).cell? ⟨w.heap.size + 1, 0, none⟩ = some (.string (strOf name)) := by
    refine ((Ext.refl _).alloc _).cell ?_
    have h := cell_of_row _ _ 0 _ _ _ (heap_alloc_new (w.alloc (.cells #[.string (strOf key), .slice aa l.length ca] 52)) (.cells #[.string (strOf name)] 9))
    rw [World.size_alloc] at h
    exact h
  have h2 : (((w.alloc (.cells #[.string (strOf key), .slice aa l.length ca] 52)).alloc (.cells #[.string (strOf name)] 9)).alloc (.cells #[.int .i64 0, .int .i64 0, .string ⟨#[]⟩, .bool false] 61)).heap[w.heap.size + 1 + 1]? = some (.cells #[.int .i64 0, .int .i64 0, .string ⟨#[]⟩, .bool false] 61 (0, 0)) := by
    have := heap_alloc_new ((w.alloc (.cells #[.string (strOf key), .slice aa l.length ca] 52)).alloc (.cells #[.string (strOf name)] 9)) (.cells #[.int .i64 0, .int .i64 0, .string ⟨#[]⟩, .bool false] 61)
    rw [World.size_alloc, World.size_alloc] at this
    exact this
  have h3 : (((w.alloc (.cells #[.string (strOf key), .slice aa l.length ca] 52)).alloc (.cells #[.string (strOf name)] 9)).alloc (.cells #[.int .i64 0, .int .i64 0, .string ⟨#[]⟩, .bool false] 61)).cell? ⟨w.heap.size, 1, none⟩ = some (.slice aa l.length ca) := by
    exact (((Ext.refl _).alloc _).alloc _).cell (cell_of_row _ _ 1 _ _ _ (heap_alloc_new w (.cells #[.string (strOf key), .slice aa l.length ca] 52)))
  generalize hG : getV l name = G at *
  have HG := Lib.hid hG
  clear hG
  go_enter Tryz.func102, Tryz.ntmps102
  go_wp2_with fail
  have hla := h.ext hx0
  have hcl : ∀ (W : World) (x : List UInt8 × V), Ext (((w.alloc (.cells #[.string (strOf key), .slice aa l.length ca] 52)).alloc (.cells #[.string (strOf name)] 9)).alloc (.cells #[.int .i64 0, .int .i64 0, .string ⟨#[]⟩, .bool false] 61)) W → x ∈ l → Calls Tryz.prog 136 (#[.agg #[.string (strOf x.1), .int .i64 x.2.k, .int .i64 x.2.n, .string (strOf x.2.s), .bool x.2.b]] ++ #[.pointer (some ⟨w.heap.size + 1, 0, none⟩)]) W fun e W' => e = .returned (.bool (decide (x.1 = name))) ∧ Ext W W' :=
    fun W x hx _ => get113_any W (w.heap.size + 1) name (hx.cell h1) x
  refine (idxA_any _ _ l hla 136 #[.pointer (some ⟨w.heap.size + 1, 0, none⟩)] (fun x => decide (x.1 = name)) ent113 hcl).mono ?_
  rintro e w2 ⟨rfl, hx2⟩
  have hg := idxP_get (fun x : List UInt8 × V => decide (x.1 = name)) l
  have hB4 : w2.heap[w.heap.size + 1 + 1]? = some (.cells #[.int .i64 0, .int .i64 0, .string ⟨#[]⟩, .bool false] 61 (0, 0)) := by rw [hx2.block _ (Array.getElem?_eq_some_iff.1 h2).1]; exact h2
  have h32 := hx2.cell h3
  have hl2 := hla.ext hx2
  have hxw := hx0.trans hx2
  have HB4 := Lib.hid hB4
  clear hcl hla h1 h2 h3 hx2 hx0 hB4 h
  generalize idxP (fun x : List UInt8 × V => decide (x.1 = name)) l = ix at *
  rcases hg with ⟨rfl, hf⟩ | ⟨i, hi, rfl, hf⟩
  · have hgv : G = (⟨0, 0, [], false⟩, false) := by rw [← HG.out]; unfold getV getE; rw [hf]; rfl
    subst hgv
    clear hf
    go_wp2_with (refine wpList_store_whole 61 (.tmp 4) (.tmp 13) rfl rfl (w.heap.size + 1 + 1) rfl #[.int .i64 0, .int .i64 0, .string ⟨#[]⟩, .bool false] rfl _ 61 HB4.out rfl info61s (by simp [Value.oneCell']) ?_)
    have hR := setRow_heap _ _ _ #[.int .i64 0, .int .i64 0, .string ⟨#[]⟩, .bool false] _ _ HB4.out
    have r0 := cell_of_row _ _ 0 _ _ _ hR
    have r1 := cell_of_row _ _ 1 _ _ _ hR
    have r2 := cell_of_row _ _ 2 _ _ _ hR
    have r3 := cell_of_row _ _ 3 _ _ _ hR
    refine bodyPost_ret (v := .tuple #[.agg #[.int .i64 0, .int .i64 0, .string (strOf []), .bool false], .bool false]) (by simp [results, Tryz.results102, go_sem, r0, r1, r2, r3]; rfl) rfl ⟨rfl, hxw.setRow (by omega) _⟩
  · have hgv : G = (l[i].2, true) := by rw [← HG.out]; unfold getV getE; rw [hf]; rfl
    obtain ⟨B1, o1, rfl, f0, f1, f2, f3, f4⟩ := AttrR.at hl2 hi
    generalize l[i] = x at *
    subst hgv
    have hI : decide ((i : Int) < 0) = false := decide_eq_false (by omega)
    clear hf
    go_wp2_with (refine wpList_store_whole 61 (.tmp 4) (.tmp 19) rfl rfl (w.heap.size + 1 + 1) rfl #[.int .i64 x.2.k, .int .i64 x.2.n, .string (strOf x.2.s), .bool x.2.b] rfl _ 61 HB4.out rfl info61s (by simp [Value.oneCell']) ?_)
    have hR := setRow_heap _ _ _ #[.int .i64 x.2.k, .int .i64 x.2.n, .string (strOf x.2.s), .bool x.2.b] _ _ HB4.out
    have r0 := cell_of_row _ _ 0 _ _ _ hR
    have r1 := cell_of_row _ _ 1 _ _ _ hR
    have r2 := cell_of_row _ _ 2 _ _ _ hR
    have r3 := cell_of_row _ _ 3 _ _ _ hR
    refine bodyPost_ret (v := .tuple #[.agg #[.int .i64 x.2.k, .int .i64 x.2.n, .string (strOf x.2.s), .bool x.2.b], .bool true]) (by simp [results, Tryz.results102, go_sem, r0, r1, r2, r3]) rfl ⟨rfl, hxw.setRow (by omega) _⟩
end Go.Proofs.YtlhbpflcffjhmaaGreat

namespace Go.Proofs.YtlhbpflcffjhmaaGreat
open Go.RowKit

theorem asks_get {l : List (List UInt8 × V)} {c : C} : asksE l c = (match getV l c.name with | (v, ok) => ok && holdsC c v) := by
  unfold asksE getV
  cases getE l c.name <;> rfl

set_option maxRecDepth 100000 in
set_option maxHeartbeats 4000000 in
theorem match56_any (w : World) (B : Nat) (key : List UInt8) (aa : Option Addr) (ca : Nat) (l : List (List UInt8 × V)) (hb : w.heap[B]? = some (.cells #[.string (strOf key), .slice aa l.length ca] 52 (0, 0))) (hl : AttrR w (.slice aa l.length ca) l)
    (c : C) (sa : Option Addr) (sc : Nat) (hs : SetR w (.slice sa c.set.length sc) c.set) :
    Calls Tryz.prog 101 #[.agg #[.string (strOf c.name), .int .i64 c.op, .int .i64 c.v.k, .int .i64 c.v.n, .string (strOf c.v.s), .bool c.v.b, .slice sa c.set.length sc], .pointer (some ⟨B, 0, none⟩)] w
      fun e w' => e = .returned (.bool (!asksE l c)) ∧ Ext w w' := by
  have hx0 : Ext w (w.alloc (.cells #[.string (strOf c.name), .int .i64 c.op, .int .i64 c.v.k, .int .i64 c.v.n, .string (strOf c.v.s), .bool c.v.b, .slice sa c.set.length sc] 64)) := (Ext.refl w).alloc _
  have hB : CBox (w.alloc (.cells #[.string (strOf c.name), .int .i64 c.op, .int .i64 c.v.k, .int .i64 c.v.n, .string (strOf c.v.s), .bool c.v.b, .slice sa c.set.length sc] 64)) w.heap.size c sa sc := ⟨heap_alloc_new _ _, hs.ext hx0⟩
  have b0 := hx0.cell (cell_of_row _ _ 0 _ _ _ hb)
  have b1 := hx0.cell (cell_of_row _ _ 1 _ _ _ hb)
  have hl0 := hl.ext hx0
  rw [asks_get]
  generalize hG : getV l c.name = G at *
  have HG := Lib.hid hG
  clear hG hb hs hl
  go_enter Tryz.func101, Tryz.ntmps101
  go_wp2_with fail
  generalize w.alloc (.cells #[.string (strOf c.name), .int .i64 c.op, .int .i64 c.v.k, .int .i64 c.v.n, .string (strOf c.v.s), .bool c.v.b, .slice sa c.set.length sc] 64) = wa at *
  refine (get_any wa key c.name _ l hl0).mono ?_
  rw [HG.out]
  obtain ⟨⟨k, n, s, b⟩, ok⟩ := G
  rintro e w2 ⟨rfl, hx2⟩
  have hx2a := hx2.alloc (.cells #[.int .i64 k, .int .i64 n, .string (strOf s), .bool b] 61)
  obtain ⟨c0, c1, c2, c3, c4, c5, c6⟩ := (hB.ext hx2a).cell
  have hs2 := (hB.ext hx2a).s
  have hxw := hx0.trans hx2a
  cases ok
  · go_wp2_with fail
    go_ret
    exact ⟨rfl, hxw⟩
  · go_wp2_with (go_at_call 103; refine (pholds_any _ c sa sc hs2 ⟨k, n, s, b⟩).mono ?_; rintro e w3 ⟨rfl, hx3⟩)
    go_ret
    exact ⟨rfl, hxw.trans hx3⟩

set_option maxRecDepth 100000 in
set_option maxHeartbeats 2000000 in
theorem matches_any (w : World) (v : Value) (p : List C) (key : List UInt8) (va : Value) (l : List (List UInt8 × V)) (hp : PredR w v p) (hl : AttrR w va l) :
    Calls Tryz.prog 56 #[v, .agg #[.string (strOf key), va]] w fun e w' => e = .returned (.bool (matchP p l)) ∧ Ext w w' := by
  obtain ⟨aa, ca, rfl, hca, hma⟩ := Row.shape hl
  obtain ⟨ap, cp, rfl, hcp, hmp⟩ := hp.shape
  have hx0 : Ext w (w.alloc (.cells #[.string (strOf key), .slice aa l.length ca] 52)) := (Ext.refl w).alloc _
  have hE : (w.alloc (.cells #[.string (strOf key), .slice aa l.length ca] 52)).heap[w.heap.size]? = some (.cells #[.string (strOf key), .slice aa l.length ca] 52 (0, 0)) := heap_alloc_new _ _
  have hl0 := hl.ext hx0
  have hp0 := hp.ext hx0
  have hcon := hasC_any _ _ p hp0 101 #[.pointer (some ⟨w.heap.size, 0, none⟩)] (fun c => !asksE l c) ent56 (fun W x sa sc hx _ hs => match56_any W w.heap.size key aa ca l (by rw [hx.block _ (Array.getElem?_eq_some_iff.1 hE).1]; exact hE) (hl0.ext hx) x sa sc hs)
  have hres : matchP p l = !p.any fun c => !asksE l c := by
    have h : ∀ q : List C, q.all (asksE l) = !q.any fun c => !asksE l c := fun q => by
      induction q with
      | nil => rfl
      | cons c q ih => rw [List.all_cons, List.any_cons, ih]; cases asksE l c <;> simp
    exact h p
  rw [hres]
  clear hres hE hl0 hp0 hl hp
  generalize (p.any fun c => !asksE l c) = r at *
  go_enter Tryz.func56, Tryz.ntmps56
  go_wp2_with (go_at_call 39; refine hcon.mono ?_; rintro e w' ⟨rfl, hx⟩)
  go_ret
  exact ⟨rfl, hx0.trans hx⟩
end Go.Proofs.YtlhbpflcffjhmaaGreat

namespace Go.Proofs.YtlhbpflcffjhmaaGreat
open Go.RowKit

theorem strOf_size (l : List UInt8) : (strOf l).size = l.length := by show l.toArray.size = _; simp
theorem pre_str (s p : List UInt8) (h : p.length ≤ s.length) : (((strOf s).extract 0 (strOf p).size).toList == p) = p.isPrefixOf s := by
  have := Lib.hasPrefix_raw (strOf s) (strOf p)
  rw [strOf_toList, strOf_size, strOf_size, decide_eq_true h, Bool.true_and] at this
  rw [strOf_size, this]; rfl

theorem rcmpV_any (w : World) (a b : V) : Calls Tryz.prog 215 #[.agg #[.int .i64 a.k, .int .i64 a.n, .string (strOf a.s), .bool a.b], .agg #[.int .i64 b.k, .int .i64 b.n, .string (strOf b.s), .bool b.b]] w fun e w' => e = .returned (.int .i64 (cmpV a b)) ∧ Grew w w' := rcompare_any w _ _ _ _ _ _ _ _
theorem cmpV_any (w : World) (a b : V) : Calls Tryz.prog 61 #[.agg #[.int .i64 a.k, .int .i64 a.n, .string (strOf a.s), .bool a.b], .agg #[.int .i64 b.k, .int .i64 b.n, .string (strOf b.s), .bool b.b]] w fun e w' => e = .returned (.int .i64 (cmpV a b)) ∧ Grew w w' := compare_any w _ _ _ _ _ _ _ _

end Go.Proofs.YtlhbpflcffjhmaaGreat

namespace Go.Proofs.YtlhbpflcffjhmaaGreat
open Go.RowKit

theorem find_take {l : List (List UInt8 × V)} {name : List UInt8} {j : Nat} (h : ∀ x ∈ l.take j, x.1 ≠ name) : getE l name = getE (l.drop j) name := by
  unfold getE
  conv => lhs; rw [← List.take_append_drop j l]
  rw [List.find?_append, List.find?_eq_none.2 (fun x hx => by simpa using h x hx)]
  rfl
theorem asks_none {l : List (List UInt8 × V)} {c : C} (h : ∀ x ∈ l.take l.length, x.1 ≠ c.name) : asksE l c = false := by
  unfold asksE
  rw [find_take h, List.drop_length]; rfl
theorem asks_some {l : List (List UInt8 × V)} {c : C} {j : Nat} (hj : j < l.length) (h : ∀ x ∈ l.take j, x.1 ≠ c.name) (he : l[j].1 = c.name) : asksE l c = holdsC c l[j].2 := by
  unfold asksE
  rw [find_take h, List.drop_eq_getElem_cons hj]
  unfold getE
  rw [List.find?_cons_of_pos (by simpa using he)]; rfl

end Go.Proofs.YtlhbpflcffjhmaaGreat

namespace Go.Proofs.YtlhbpflcffjhmaaGreat
open Go.RowKit

set_option maxRecDepth 100000 in
theorem number_any (w : World) (n : Int) : Calls Tryz.prog 125 #[.int .i64 n] w fun e w' => e = .returned (.agg #[.int .i64 1, .int .i64 n, .string (strOf []), .bool false]) ∧ Grew w w' := by
  go_enter Tryz.func125, Tryz.ntmps125
  go_wp2
  have hR := heap_alloc_new w (.cells #[.int .i64 1, .int .i64 n, .string ⟨#[]⟩, .bool false] 61)
  have r0 := cell_of_row _ _ 0 _ _ _ hR
  have r1 := cell_of_row _ _ 1 _ _ _ hR
  have r2 := cell_of_row _ _ 2 _ _ _ hR
  have r3 := cell_of_row _ _ 3 _ _ _ hR
  refine bodyPost_ret (v := .agg #[.int .i64 1, .int .i64 n, .string (strOf []), .bool false]) (by simp [results, Tryz.results125, go_sem, r0, r1, r2, r3]; rfl) rfl ⟨rfl, (Grew.refl w).alloc _⟩
set_option maxRecDepth 100000 in
theorem word_any (w : World) (s : List UInt8) : Calls Tryz.prog 126 #[.string (strOf s)] w fun e w' => e = .returned (.agg #[.int .i64 2, .int .i64 0, .string (strOf s), .bool false]) ∧ Grew w w' := by
  go_enter Tryz.func126, Tryz.ntmps126
  go_wp2
  have hR := heap_alloc_new w (.cells #[.int .i64 2, .int .i64 0, .string (strOf s), .bool false] 61)
  have r0 := cell_of_row _ _ 0 _ _ _ hR
  have r1 := cell_of_row _ _ 1 _ _ _ hR
  have r2 := cell_of_row _ _ 2 _ _ _ hR
  have r3 := cell_of_row _ _ 3 _ _ _ hR
  refine bodyPost_ret (v := .agg #[.int .i64 2, .int .i64 0, .string (strOf s), .bool false]) (by simp [results, Tryz.results126, go_sem, r0, r1, r2, r3]) rfl ⟨rfl, (Grew.refl w).alloc _⟩
set_option maxRecDepth 100000 in
theorem truth_any (w : World) (b : Bool) : Calls Tryz.prog 116 #[.bool b] w fun e w' => e = .returned (.agg #[.int .i64 3, .int .i64 0, .string (strOf []), .bool b]) ∧ Grew w w' := by
  go_enter Tryz.func116, Tryz.ntmps116
  go_wp2
  have hR := heap_alloc_new w (.cells #[.int .i64 3, .int .i64 0, .string ⟨#[]⟩, .bool b] 61)
  have r0 := cell_of_row _ _ 0 _ _ _ hR
  have r1 := cell_of_row _ _ 1 _ _ _ hR
  have r2 := cell_of_row _ _ 2 _ _ _ hR
  have r3 := cell_of_row _ _ 3 _ _ _ hR
  refine bodyPost_ret (v := .agg #[.int .i64 3, .int .i64 0, .string (strOf []), .bool b]) (by simp [results, Tryz.results116, go_sem, r0, r1, r2, r3]; rfl) rfl ⟨rfl, (Grew.refl w).alloc _⟩

/-- The value's own box, behind a second one and a draw. -/
theorem box28 (w : World) (k n : Int) (s : List UInt8) (b : Bool) :
    ((w.alloc (.cells #[.int .i64 k, .int .i64 n, .string (strOf s), .bool b] 61)).alloc (.cells #[.int .i64 k, .int .i64 n, .string (strOf s), .bool b] 61)).drew.cell? ⟨w.heap.size, 0, none⟩ = some (.int .i64 k) ∧
    ((w.alloc (.cells #[.int .i64 k, .int .i64 n, .string (strOf s), .bool b] 61)).alloc (.cells #[.int .i64 k, .int .i64 n, .string (strOf s), .bool b] 61)).drew.cell? ⟨w.heap.size, 1, none⟩ = some (.int .i64 n) ∧
    ((w.alloc (.cells #[.int .i64 k, .int .i64 n, .string (strOf s), .bool b] 61)).alloc (.cells #[.int .i64 k, .int .i64 n, .string (strOf s), .bool b] 61)).drew.cell? ⟨w.heap.size, 2, none⟩ = some (.string (strOf s)) ∧
    ((w.alloc (.cells #[.int .i64 k, .int .i64 n, .string (strOf s), .bool b] 61)).alloc (.cells #[.int .i64 k, .int .i64 n, .string (strOf s), .bool b] 61)).drew.cell? ⟨w.heap.size, 3, none⟩ = some (.bool b) := by
  have hx : Ext (w.alloc (.cells #[.int .i64 k, .int .i64 n, .string (strOf s), .bool b] 61)) ((w.alloc (.cells #[.int .i64 k, .int .i64 n, .string (strOf s), .bool b] 61)).alloc (.cells #[.int .i64 k, .int .i64 n, .string (strOf s), .bool b] 61)).drew := ((Ext.refl _).alloc _).drew
  have hR := heap_alloc_new w (.cells #[.int .i64 k, .int .i64 n, .string (strOf s), .bool b] 61)
  exact ⟨hx.cell (cell_of_row _ _ 0 _ _ _ hR), hx.cell (cell_of_row _ _ 1 _ _ _ hR), hx.cell (cell_of_row _ _ 2 _ _ _ hR), hx.cell (cell_of_row _ _ 3 _ _ _ hR)⟩

set_option maxRecDepth 100000 in
set_option maxHeartbeats 4000000 in
theorem vmay1 (w : World) (n : Int) (s : List UInt8) (b : Bool) :
    Calls Tryz.prog 89 #[.agg #[.int .i64 1, .int .i64 n, .string (strOf s), .bool b]] w fun e w' => e = .returned (.bool (s.isEmpty && !b)) ∧ Grew w w' := by
  have t1 := ta22
  obtain ⟨c0, c1, c2, c3⟩ := box28 w 1 n s b
  cases s <;> cases b
  all_goals
    go_enter Tryz.func89, Tryz.ntmps89
    go_upto_region 4 with go_in
    go_region_law (go_simp; go_at_call 125; refine (number_any _ _).mono ?_; rintro e w2 ⟨rfl, hx2⟩; have m0 := hx2.1.cell c0; have m1 := hx2.1.cell c1; have m2 := hx2.1.cell c2; have m3 := hx2.1.cell c3)
    all_goals
      go_wp2_with fail
      go_ret
      exact ⟨rfl, (((Grew.refl w).alloc _).alloc _).trans ((Grew.refl _).drew.trans hx2)⟩

set_option maxRecDepth 100000 in
set_option maxHeartbeats 4000000 in
theorem vmay2 (w : World) (n : Int) (s : List UInt8) (b : Bool) :
    Calls Tryz.prog 89 #[.agg #[.int .i64 2, .int .i64 n, .string (strOf s), .bool b]] w fun e w' => e = .returned (.bool (decide (n = 0) && !b && decide (s.length ≤ 32))) ∧ Ext w w' := by
  obtain ⟨c0, c1, c2, c3⟩ := box28 w 2 n s b
  have t1 := ta92
  have t2 := ta99
  by_cases hn : n = 0
  · subst hn
    cases b
    · have hr : (decide ((0 : Int) = 0) && !false && decide (s.length ≤ 32)) = decide (((strOf s).size : Int) ≤ 32) := by
        rw [strOf_size]
        simp only [decide_true, Bool.not_false, Bool.true_and]
        rw [Bool.eq_iff_iff, decide_eq_true_iff, decide_eq_true_iff]; omega
      rw [hr]
      clear hr
      go_enter Tryz.func89, Tryz.ntmps89
      go_upto_region 7 with go_in
      refine wp_region_facts [Fact.eq (.agg #[.int .i64 2, .int .i64 0, .string (strOf s), .bool false]),
          Fact.eq (.string (strOf s)),
          Fact.eq (.agg #[.int .i64 2, .int .i64 0, .string (strOf s), .bool false]),
          Fact.eq (.bool true),
          Fact.eq (.bool true),
          Fact.eq (.string (strOf s)),
          Fact.eq (.int .i64 (strOf s).size),
          Fact.eq (.bool (decide (((strOf s).size : Int) ≤ 32))),
          Fact.eq (.bool (decide (((strOf s).size : Int) ≤ 32))),
          Fact.eq (.bool (decide (((strOf s).size : Int) ≤ 32)))]
        [[], [], [(1, 19)], [(0, 18), (2, 20)], [(3, 21)], [(4, 22)], [(5, 23), (4, 22)], [(6, 24), (4, 22)], [(4, 22), (7, 25)], [(8, 26)]]
        [(0, 18), (1, 19), (2, 20), (3, 21), (4, 22), (5, 23), (6, 24), (7, 25), (8, 26), (9, 2)] (by kernel_rfl) (by kernel_rfl) ?_ ?_
      · refine ⟨?_, ?_, ?_, ?_, ?_, ?_, ?_, ?_, ?_, ?_, trivial⟩
        · intro w1 hx1; change wpList _ _ _ _ _ _; have m0 := hx1.cell c0; have m1 := hx1.cell c1; have m2 := hx1.cell c2; have m3 := hx1.cell c3; go_wp2_with fail; exact ⟨rfl, Ext.refl _, rfl, rfl⟩
        · intro w1 hx1; change wpList _ _ _ _ _ _; exact ob_move rfl rfl rfl rfl rfl
        · intro w1 hx1; rintro _ rfl; change wpList _ _ _ _ _ _; go_wp2_with fail; refine (word_any _ _).mono ?_; rintro e w2 ⟨rfl, hx2⟩; go_wp2_with fail; exact ⟨rfl, hx2.1, rfl, rfl⟩
        · intro w1 hx1; rintro _ rfl; rintro _ rfl; change wpList _ _ _ _ _ _; go_wp2_with fail; exact ⟨rfl, Ext.refl _, rfl, rfl⟩
        · intro w1 hx1; rintro _ rfl; change wpList _ _ _ _ _ _; exact ob_move rfl rfl rfl rfl rfl
        · intro w1 hx1; rintro _ rfl; change wpList _ _ _ _ _ _; exact ob_move rfl rfl rfl rfl rfl
        · intro w1 hx1; rintro _ rfl; rintro _ rfl; change wpList _ _ _ _ _ _; go_wp2_with fail; exact ⟨rfl, Ext.refl _, rfl, rfl⟩
        · intro w1 hx1; rintro _ rfl; rintro _ rfl; change wpList _ _ _ _ _ _; go_wp2_with fail; exact ⟨rfl, Ext.refl _, rfl, rfl⟩
        · intro w1 hx1; rintro _ rfl; rintro _ rfl; change wpList _ _ _ _ _ _; exact ob_pick rfl rfl rfl rfl rfl rfl
        · intro w1 hx1; rintro _ rfl; change wpList _ _ _ _ _ _; exact ob_assign rfl rfl rfl rfl rfl
      · intro w1 hx1; rintro _ rfl; rintro _ rfl; rintro _ rfl; rintro _ rfl; rintro _ rfl; rintro _ rfl; rintro _ rfl; rintro _ rfl; rintro _ rfl; rintro _ rfl; refine depsThen_nil ?_; dsimp only; simp only [Act.put, List.setIfInBounds_toArray, List.set_cons_zero, List.set_cons_succ]
        go_wp2_with fail
        go_ret
        exact ⟨rfl, (((Ext.refl w).alloc _).alloc _).trans hx1⟩
    · have hr : (decide ((0 : Int) = 0) && !true && decide (s.length ≤ 32)) = false := by simp
      rw [hr]
      clear hr
      go_enter Tryz.func89, Tryz.ntmps89
      go_upto_region 7 with go_in
      refine wp_region_facts [Fact.eq (.agg #[.int .i64 2, .int .i64 0, .string (strOf s), .bool true]),
          Fact.eq (.string (strOf s)),
          Fact.eq (.agg #[.int .i64 2, .int .i64 0, .string (strOf s), .bool false]),
          Fact.eq (.bool false),
          Fact.eq (.bool false),
          Fact.eq undef,
          Fact.eq undef,
          Fact.eq undef,
          Fact.eq (.bool false),
          Fact.eq (.bool false)]
        [[], [], [(1, 19)], [(0, 18), (2, 20)], [(3, 21)], [(4, 22)], [(5, 23), (4, 22)], [(6, 24), (4, 22)], [(4, 22), (7, 25)], [(8, 26)]]
        [(0, 18), (1, 19), (2, 20), (3, 21), (4, 22), (5, 23), (6, 24), (7, 25), (8, 26), (9, 2)] (by kernel_rfl) (by kernel_rfl) ?_ ?_
      · refine ⟨?_, ?_, ?_, ?_, ?_, ?_, ?_, ?_, ?_, ?_, trivial⟩
        · intro w1 hx1; change wpList _ _ _ _ _ _; have m0 := hx1.cell c0; have m1 := hx1.cell c1; have m2 := hx1.cell c2; have m3 := hx1.cell c3; go_wp2_with fail; exact ⟨rfl, Ext.refl _, rfl, rfl⟩
        · intro w1 hx1; change wpList _ _ _ _ _ _; exact ob_move rfl rfl rfl rfl rfl
        · intro w1 hx1; rintro _ rfl; change wpList _ _ _ _ _ _; go_wp2_with fail; refine (word_any _ _).mono ?_; rintro e w2 ⟨rfl, hx2⟩; go_wp2_with fail; exact ⟨rfl, hx2.1, rfl, rfl⟩
        · intro w1 hx1; rintro _ rfl; rintro _ rfl; change wpList _ _ _ _ _ _; go_wp2_with fail; exact ⟨rfl, Ext.refl _, rfl, rfl⟩
        · intro w1 hx1; rintro _ rfl; change wpList _ _ _ _ _ _; exact ob_move rfl rfl rfl rfl rfl
        · intro w1 hx1; rintro _ rfl; change wpList _ _ _ _ _ _; exact ob_skip rfl rfl rfl rfl
        · intro w1 hx1; rintro _ rfl; rintro _ rfl; change wpList _ _ _ _ _ _; exact ob_skip rfl rfl rfl rfl
        · intro w1 hx1; rintro _ rfl; rintro _ rfl; change wpList _ _ _ _ _ _; exact ob_skip rfl rfl rfl rfl
        · intro w1 hx1; rintro _ rfl; rintro _ rfl; change wpList _ _ _ _ _ _; exact ob_pick rfl rfl rfl rfl rfl rfl
        · intro w1 hx1; rintro _ rfl; change wpList _ _ _ _ _ _; exact ob_assign rfl rfl rfl rfl rfl
      · intro w1 hx1; rintro _ rfl; rintro _ rfl; rintro _ rfl; rintro _ rfl; rintro _ rfl; rintro _ rfl; rintro _ rfl; rintro _ rfl; rintro _ rfl; rintro _ rfl; refine depsThen_nil ?_; dsimp only; simp only [Act.put, List.setIfInBounds_toArray, List.set_cons_zero, List.set_cons_succ]
        go_wp2_with fail
        go_ret
        exact ⟨rfl, (((Ext.refl w).alloc _).alloc _).trans hx1⟩
  · have hr : (decide (n = 0) && !b && decide (s.length ≤ 32)) = false := by rw [decide_eq_false hn]; rfl
    rw [hr]
    have hd := beq_int_ne hn
    clear hr hn
    go_enter Tryz.func89, Tryz.ntmps89
    go_upto_region 7 with go_in
    refine wp_region_facts [Fact.eq (.agg #[.int .i64 2, .int .i64 n, .string (strOf s), .bool b]),
        Fact.eq (.string (strOf s)),
        Fact.eq (.agg #[.int .i64 2, .int .i64 0, .string (strOf s), .bool false]),
        Fact.eq (.bool false),
        Fact.eq (.bool false),
        Fact.eq undef,
        Fact.eq undef,
        Fact.eq undef,
        Fact.eq (.bool false),
        Fact.eq (.bool false)]
      [[], [], [(1, 19)], [(0, 18), (2, 20)], [(3, 21)], [(4, 22)], [(5, 23), (4, 22)], [(6, 24), (4, 22)], [(4, 22), (7, 25)], [(8, 26)]]
      [(0, 18), (1, 19), (2, 20), (3, 21), (4, 22), (5, 23), (6, 24), (7, 25), (8, 26), (9, 2)] (by kernel_rfl) (by kernel_rfl) ?_ ?_
    · refine ⟨?_, ?_, ?_, ?_, ?_, ?_, ?_, ?_, ?_, ?_, trivial⟩
      · intro w1 hx1; change wpList _ _ _ _ _ _; have m0 := hx1.cell c0; have m1 := hx1.cell c1; have m2 := hx1.cell c2; have m3 := hx1.cell c3; go_wp2_with fail; exact ⟨rfl, Ext.refl _, rfl, rfl⟩
      · intro w1 hx1; change wpList _ _ _ _ _ _; exact ob_move rfl rfl rfl rfl rfl
      · intro w1 hx1; rintro _ rfl; change wpList _ _ _ _ _ _; go_wp2_with fail; refine (word_any _ _).mono ?_; rintro e w2 ⟨rfl, hx2⟩; go_wp2_with fail; exact ⟨rfl, hx2.1, rfl, rfl⟩
      · intro w1 hx1; rintro _ rfl; rintro _ rfl; change wpList _ _ _ _ _ _; go_wp2_with fail; exact ⟨rfl, Ext.refl _, rfl, rfl⟩
      · intro w1 hx1; rintro _ rfl; change wpList _ _ _ _ _ _; exact ob_move rfl rfl rfl rfl rfl
      · intro w1 hx1; rintro _ rfl; change wpList _ _ _ _ _ _; exact ob_skip rfl rfl rfl rfl
      · intro w1 hx1; rintro _ rfl; rintro _ rfl; change wpList _ _ _ _ _ _; exact ob_skip rfl rfl rfl rfl
      · intro w1 hx1; rintro _ rfl; rintro _ rfl; change wpList _ _ _ _ _ _; exact ob_skip rfl rfl rfl rfl
      · intro w1 hx1; rintro _ rfl; rintro _ rfl; change wpList _ _ _ _ _ _; exact ob_pick rfl rfl rfl rfl rfl rfl
      · intro w1 hx1; rintro _ rfl; change wpList _ _ _ _ _ _; exact ob_assign rfl rfl rfl rfl rfl
    · intro w1 hx1; rintro _ rfl; rintro _ rfl; rintro _ rfl; rintro _ rfl; rintro _ rfl; rintro _ rfl; rintro _ rfl; rintro _ rfl; rintro _ rfl; rintro _ rfl; refine depsThen_nil ?_; dsimp only; simp only [Act.put, List.setIfInBounds_toArray, List.set_cons_zero, List.set_cons_succ]
      go_wp2_with fail
      go_ret
      exact ⟨rfl, (((Ext.refl w).alloc _).alloc _).trans hx1⟩

set_option maxRecDepth 100000 in
set_option maxHeartbeats 4000000 in
theorem vmay3 (w : World) (n : Int) (s : List UInt8) (b : Bool) :
    Calls Tryz.prog 89 #[.agg #[.int .i64 3, .int .i64 n, .string (strOf s), .bool b]] w fun e w' => e = .returned (.bool (decide (n = 0) && s.isEmpty)) ∧ Grew w w' := by
  obtain ⟨c0, c1, c2, c3⟩ := box28 w 3 n s b
  have t1 := ta42
  have t2 := ta49
  have t3 := ta44
  by_cases hn : n = 0
  · subst hn
    cases s
    all_goals
      go_enter Tryz.func89, Tryz.ntmps89
      go_upto_region 10 with go_in
      go_region_law (go_simp; go_at_call 116; refine (truth_any _ _).mono ?_; rintro e w2 ⟨rfl, hx2⟩; have m0 := hx2.1.cell c0; have m1 := hx2.1.cell c1; have m2 := hx2.1.cell c2; have m3 := hx2.1.cell c3)
      all_goals
        go_wp2_with fail
        go_ret
        exact ⟨rfl, (((Grew.refl w).alloc _).alloc _).trans ((Grew.refl _).drew.trans hx2)⟩
  · have hr : (decide (n = 0) && s.isEmpty) = false := by rw [decide_eq_false hn]; rfl
    rw [hr]
    have hd := beq_int_ne hn
    clear hr hn
    go_enter Tryz.func89, Tryz.ntmps89
    go_upto_region 10 with go_in
    go_region_law (go_simp; go_at_call 116; refine (truth_any _ _).mono ?_; rintro e w2 ⟨rfl, hx2⟩; have m0 := hx2.1.cell c0; have m1 := hx2.1.cell c1; have m2 := hx2.1.cell c2; have m3 := hx2.1.cell c3)
    all_goals
      go_wp2_with fail
      go_ret
      exact ⟨rfl, (((Grew.refl w).alloc _).alloc _).trans ((Grew.refl _).drew.trans hx2)⟩

set_option maxRecDepth 100000 in
set_option maxHeartbeats 4000000 in
theorem vmay_any (w : World) (v : V) : Calls Tryz.prog 89 #[.agg #[.int .i64 v.k, .int .i64 v.n, .string (strOf v.s), .bool v.b]] w fun e w' => e = .returned (.bool (mayV v)) ∧ Ext w w' := by
  obtain ⟨k, n, s, b⟩ := v
  unfold mayV
  by_cases h1 : k = 1
  · subst h1; exact (vmay1 w n s b).mono fun _ _ h => ⟨h.1, h.2.1⟩
  by_cases h2 : k = 2
  · subst h2; exact vmay2 w n s b
  by_cases h3 : k = 3
  · subst h3; exact (vmay3 w n s b).mono fun _ _ h => ⟨h.1, h.2.1⟩
  simp only [if_neg h1, if_neg h2, if_neg h3]
  have d1 := beq_int_ne h1
  have d2 := beq_int_ne h2
  have d3 := beq_int_ne h3
  have t1 := ta02
  have t2 := ta09
  have t3 := ta04
  clear h1 h2 h3
  go_enter Tryz.func89, Tryz.ntmps89
  go_wp2_with go_in
  go_ret
  exact ⟨rfl, ((Ext.refl w).alloc _).alloc _⟩
end Go.Proofs.YtlhbpflcffjhmaaGreat

namespace Go.Proofs.YtlhbpflcffjhmaaGreat
open Go.RowKit

theorem ent72 : ∀ args w, (callFunc 88 args).run Tryz.prog w = .ok (.enter 88 args) w := enters_of Tryz.func88 (by kernel_rfl) rfl
theorem ent63 : ∀ args w, (callFunc 40 args).run Tryz.prog w = .ok (.enter 40 args) w := enters_of Tryz.func40 (by kernel_rfl) rfl

set_option maxRecDepth 100000 in
set_option maxHeartbeats 2000000 in
theorem may72_any (w : World) (v : V) : Calls Tryz.prog 88 #[.agg #[.int .i64 v.k, .int .i64 v.n, .string (strOf v.s), .bool v.b]] w fun e w' => e = .returned (.bool (!mayV v)) ∧ Ext w w' := by
  have hx0 : Ext w (w.alloc (.cells #[.int .i64 v.k, .int .i64 v.n, .string (strOf v.s), .bool v.b] 61)) := (Ext.refl w).alloc _
  go_enter Tryz.func88, Tryz.ntmps88
  go_wp2_with (go_at_call 89; refine (vmay_any _ v).mono ?_; rintro e w2 ⟨rfl, hx2⟩)
  go_ret
  exact ⟨rfl, hx0.trans hx2⟩

theorem bareV_eq (v : V) : bareV v = ((v.k == 0) && ((v.n == 0) && ((v.s == []) && (v.b == false)))) := by
  obtain ⟨k, n, s, b⟩ := v
  unfold bareV
  rw [Bool.eq_iff_iff]
  simp

/-- MayCons's answer, by its tests. -/
def mayT (len op vk : Int) (sl : Nat) (B M S : Bool) : Bool :=
  if decide (len < 1) || decide (16 < len) then false
  else if op = 1 then B && decide (sl = 0)
  else if 2 ≤ op ∧ op ≤ 7 then M && decide (sl = 0)
  else if op = 8 then M && decide (vk = 2) && decide (sl = 0)
  else if op = 9 then B && decide (1 ≤ sl) && decide (sl ≤ 6) && S
  else false
theorem mayC_T (c : C) : mayC c = mayT (strOf c.name).size c.op c.v.k c.set.length (bareV c.v) (mayV c.v) (!(c.set.any fun x => !mayV x)) := by
  have hS : (!(c.set.any fun x => !mayV x)) = c.set.all mayV := by
    generalize c.set = l
    induction l with
    | nil => rfl
    | cons x l ih => rw [List.any_cons, List.all_cons, ← ih]; cases mayV x <;> simp
  have hE : c.set.isEmpty = decide (c.set.length = 0) := by cases c.set <;> simp
  unfold mayC mayT
  rw [hS, hE, strOf_size]
  have hI : (decide (((c.name.length : Nat) : Int) < 1) || decide ((16 : Int) < ((c.name.length : Nat) : Int))) = decide (c.name.length < 1 ∨ 16 < c.name.length) := by
    rw [Bool.eq_iff_iff]
    simp only [Bool.or_eq_true, decide_eq_true_eq]; omega
  rw [hI]
  by_cases h : c.name.length < 1 ∨ 16 < c.name.length
  · rw [if_pos h, decide_eq_true h]; rfl
  · rw [if_neg h, decide_eq_false h]; rfl

set_option maxRecDepth 100000 in
set_option maxHeartbeats 8000000 in
theorem maycons_any (w : World) (c : C) (sa : Option Addr) (sc : Nat) (hs : SetR w (.slice sa c.set.length sc) c.set) :
    Calls Tryz.prog 41 #[.agg #[.string (strOf c.name), .int .i64 c.op, .int .i64 c.v.k, .int .i64 c.v.n, .string (strOf c.v.s), .bool c.v.b, .slice sa c.set.length sc]] w
      fun e w' => e = .returned (.bool (mayC c)) ∧ Ext w w' := by
  have hx0 : Ext w (w.alloc (.cells #[.string (strOf c.name), .int .i64 c.op, .int .i64 c.v.k, .int .i64 c.v.n, .string (strOf c.v.s), .bool c.v.b, .slice sa c.set.length sc] 64)) := (Ext.refl w).alloc _
  have hB : CBox (w.alloc (.cells #[.string (strOf c.name), .int .i64 c.op, .int .i64 c.v.k, .int .i64 c.v.n, .string (strOf c.v.s), .bool c.v.b, .slice sa c.set.length sc] 64)) w.heap.size c sa sc := ⟨heap_alloc_new _ _, hs.ext hx0⟩
  rw [mayC_T]
  have hbare := Lib.hid (bareV_eq c.v)
  obtain ⟨_, _, es, hcs, hms⟩ := Row.shape hs
  simp only [Value.slice.injEq] at es
  obtain ⟨rfl, -, rfl⟩ := es
  unfold maxLen at hms
  clear hs
  by_cases hn1 : ((strOf c.name).size : Int) < 1
  · have hT : mayT (strOf c.name).size c.op c.v.k c.set.length (bareV c.v) (mayV c.v) (!(c.set.any fun x => !mayV x)) = false := by
      unfold mayT; rw [decide_eq_true hn1]; rfl
    rw [hT]
    have d1 : decide (((strOf c.name).size : Int) < 1) = true := decide_eq_true hn1
    clear hT hn1
    go_enter Tryz.func41, Tryz.ntmps41
    go_wp2_with fail
    go_ret
    exact ⟨rfl, hx0⟩
  have d1 : decide (((strOf c.name).size : Int) < 1) = false := decide_eq_false hn1
  by_cases hn2 : (16 : Int) < ((strOf c.name).size : Int)
  · have hT : mayT (strOf c.name).size c.op c.v.k c.set.length (bareV c.v) (mayV c.v) (!(c.set.any fun x => !mayV x)) = false := by
      unfold mayT; rw [decide_eq_true hn2, Bool.or_true]; rfl
    rw [hT]
    have d2 : decide ((16 : Int) < ((strOf c.name).size : Int)) = true := decide_eq_true hn2
    have d3 : ¬ ((strOf c.name).size < 1) := by omega
    have d4 : 16 < (strOf c.name).size := by omega
    clear hT hn2 hn1
    go_enter Tryz.func41, Tryz.ntmps41
    go_wp2_with fail
    go_ret
    exact ⟨rfl, hx0⟩
  have d2 : decide ((16 : Int) < ((strOf c.name).size : Int)) = false := decide_eq_false hn2
  have hT : mayT (strOf c.name).size c.op c.v.k c.set.length (bareV c.v) (mayV c.v) (!(c.set.any fun x => !mayV x)) = 
      (if c.op = 1 then bareV c.v && decide (c.set.length = 0)
       else if 2 ≤ c.op ∧ c.op ≤ 7 then mayV c.v && decide (c.set.length = 0)
       else if c.op = 8 then mayV c.v && decide (c.v.k = 2) && decide (c.set.length = 0)
       else if c.op = 9 then bareV c.v && decide (1 ≤ c.set.length) && decide (c.set.length ≤ 6) && (!(c.set.any fun x => !mayV x))
       else false) := by
    unfold mayT; rw [d1, d2]; rfl
  rw [hT]
  clear hT
  generalize hbv : bareV c.v = B at *
  clear hbv
  have HT : ∃ R : Bool, R = (if c.op = 1 then B && decide (c.set.length = 0)
       else if 2 ≤ c.op ∧ c.op ≤ 7 then mayV c.v && decide (c.set.length = 0)
       else if c.op = 8 then mayV c.v && decide (c.v.k = 2) && decide (c.set.length = 0)
       else if c.op = 9 then B && decide (1 ≤ c.set.length) && decide (c.set.length ≤ 6) && (!(c.set.any fun x => !mayV x))
       else false) := ⟨_, rfl⟩
  obtain ⟨R, hR⟩ := HT
  rw [← hR]
  have HR := Lib.hid hR
  clear hR
  have hcon := fun W h => hasV_any W (.slice sa c.set.length sc) c.set h 88 #[] (fun x => !mayV x) ent72 (fun W x hx _ => may72_any W x)
  have HM := fun W => vmay_any W c.v
  have hxa := hB.cell
  go_enter Tryz.func41, Tryz.ntmps41
  go_upto_region 3 with fail
  generalize w.alloc (.cells #[.string (strOf c.name), .int .i64 c.op, .int .i64 c.v.k, .int .i64 c.v.n, .string (strOf c.v.s), .bool c.v.b, .slice sa c.set.length sc] 64) = wa at *
  obtain ⟨c0, c1, c2, c3, c4, c5, c6⟩ := hxa
  go_cut [3] from 15 to 18 (fun v3 wx => v3 = .bool B ∧ wx = wa)
  case first =>
    clear hcon HM
    cases b1 : (c.v.k == 0)
    · go_wp2_with fail
      go_meet
      exact ⟨by rw [hbare.out, b1]; rfl, rfl⟩
    · cases b2 : (c.v.n == 0)
      · go_wp2_with fail
        go_meet
        exact ⟨by rw [hbare.out, b1, b2]; rfl, rfl⟩
      · cases b3 : (c.v.s == [])
        · go_wp2_with fail
          go_meet
          exact ⟨by rw [hbare.out, b1, b2, b3]; rfl, rfl⟩
        · cases b4 : (c.v.b == false)
          · go_wp2_with fail
            go_meet
            exact ⟨by rw [hbare.out, b1, b2, b3, b4]; rfl, rfl⟩
          · go_wp2_with fail
            go_meet
            exact ⟨by rw [hbare.out, b1, b2, b3, b4]; rfl, rfl⟩
  case rest =>
    obtain ⟨rfl, rfl⟩ := hcut
    clear hbare
    generalize (c.set.any fun x => !mayV x) = S at *
    generalize mayV c.v = M at *
    have hsl := hB.s
    have HB := Lib.hid hB
    clear hB
    go_upto_region 5 with (go_at_call 87; refine (hcon _ hsl).mono ?_; rintro e w2 ⟨rfl, hx2⟩; have m1 := hx2.cell c1; have m2 := hx2.cell c2; have m3 := hx2.cell c3; have m4 := hx2.cell c4; have m5 := hx2.cell c5; have m6 := hx2.cell c6)
    clear hcon c0 c1 c2 c3 c4 c5 c6 d1 d2 hn1 hn2
    have hxw := hx0.trans hx2
    by_cases h1 : c.op = 1
    · have d1 : (c.op == 1) = true := beq_iff_eq.2 h1
      have hr : Hid (R = (B && decide (c.set.length = 0))) := by show _ = _; rw [HR.out, if_pos h1]
      clear HR h1
      generalize c.set.length = n at *
      cases B
      · go_wp2_with fail
        go_ret
        exact ⟨by rw [hr.out]; rfl, hxw⟩
      · by_cases hz : n = 0
        · have z1 : ((n : Int) == 0) = true := beq_iff_eq.2 (by omega)
          go_wp2_with fail
          go_ret
          exact ⟨by rw [hr.out, decide_eq_true hz]; rfl, hxw⟩
        · have z1 : ((n : Int) == 0) = false := beq_eq_false_iff_ne.2 (by omega)
          go_wp2_with fail
          go_ret
          exact ⟨by rw [hr.out, decide_eq_false hz]; rfl, hxw⟩
    have e1 := beq_int_ne h1
    by_cases h27 : 2 ≤ c.op ∧ c.op ≤ 7
    · have d1 : decide (2 ≤ c.op) = true := decide_eq_true h27.1
      have d2 : decide (c.op ≤ 7) = true := decide_eq_true h27.2
      have hr : Hid (R = (M && decide (c.set.length = 0))) := by show _ = _; rw [HR.out, if_neg h1, if_pos h27]
      clear HR h1 h27
      generalize c.set.length = n at *
      cases M
      · go_wp2_with (go_at_call 89; refine (HM _).mono ?_; rintro e w3 ⟨rfl, hx3⟩; have m6 := hx3.cell m6)
        go_ret
        exact ⟨by rw [hr.out]; rfl, hxw.trans hx3⟩
      · by_cases hz : n = 0
        · have z1 : ((n : Int) == 0) = true := beq_iff_eq.2 (by omega)
          go_wp2_with (go_at_call 89; refine (HM _).mono ?_; rintro e w3 ⟨rfl, hx3⟩; have m6 := hx3.cell m6)
          go_ret
          exact ⟨by rw [hr.out, decide_eq_true hz]; rfl, hxw.trans hx3⟩
        · have z1 : ((n : Int) == 0) = false := beq_eq_false_iff_ne.2 (by omega)
          go_wp2_with (go_at_call 89; refine (HM _).mono ?_; rintro e w3 ⟨rfl, hx3⟩; have m6 := hx3.cell m6)
          go_ret
          exact ⟨by rw [hr.out, decide_eq_false hz]; rfl, hxw.trans hx3⟩
    by_cases h8 : c.op = 8
    · have d1 : (c.op == 8) = true := beq_iff_eq.2 h8
      have d2 : decide (2 ≤ c.op) = true := decide_eq_true (by omega)
      have d3 : decide (c.op ≤ 7) = false := decide_eq_false (by omega)
      have hr : Hid (R = (M && decide (c.v.k = 2) && decide (c.set.length = 0))) := by show _ = _; rw [HR.out, if_neg h1, if_neg h27, if_pos h8]
      clear HR h1 h27 h8
      generalize c.set.length = n at *
      cases M
      · go_wp2_with (go_at_call 89; refine (HM _).mono ?_; rintro e w3 ⟨rfl, hx3⟩; have m6 := hx3.cell m6; have m2 := hx3.cell m2)
        go_ret
        exact ⟨by rw [hr.out]; rfl, hxw.trans hx3⟩
      · by_cases hk : c.v.k = 2
        · have k1 : (c.v.k == 2) = true := beq_iff_eq.2 hk
          replace hk := Lib.hid hk
          by_cases hz : n = 0
          · have z1 : ((n : Int) == 0) = true := beq_iff_eq.2 (by omega)
            replace hz := Lib.hid hz
            go_wp2_with (go_at_call 89; refine (HM _).mono ?_; rintro e w3 ⟨rfl, hx3⟩; have m6 := hx3.cell m6; have m2 := hx3.cell m2)
            go_ret
            exact ⟨by rw [hr.out, decide_eq_true hk.out, decide_eq_true hz.out]; rfl, hxw.trans hx3⟩
          · have z1 : ((n : Int) == 0) = false := beq_eq_false_iff_ne.2 (by omega)
            replace hz := Lib.hid hz
            go_wp2_with (go_at_call 89; refine (HM _).mono ?_; rintro e w3 ⟨rfl, hx3⟩; have m6 := hx3.cell m6; have m2 := hx3.cell m2)
            go_ret
            exact ⟨by rw [hr.out, decide_eq_true hk.out, decide_eq_false hz.out]; rfl, hxw.trans hx3⟩
        · have k1 := beq_int_ne hk
          replace hk := Lib.hid hk
          go_wp2_with (go_at_call 89; refine (HM _).mono ?_; rintro e w3 ⟨rfl, hx3⟩; have m6 := hx3.cell m6; have m2 := hx3.cell m2)
          go_ret
          exact ⟨by rw [hr.out, decide_eq_false hk.out]; rfl, hxw.trans hx3⟩
    have e8 := beq_int_ne h8
    have e27 : (decide (2 ≤ c.op) = false) ∨ (decide (2 ≤ c.op) = true ∧ decide (c.op ≤ 7) = false) := by
      by_cases h2 : 2 ≤ c.op
      · exact Or.inr ⟨decide_eq_true h2, decide_eq_false fun h => h27 ⟨h2, h⟩⟩
      · exact Or.inl (decide_eq_false h2)
    by_cases h9 : c.op = 9
    · have d1 : (c.op == 9) = true := beq_iff_eq.2 h9
      have d2 : decide (2 ≤ c.op) = true := decide_eq_true (by omega)
      have d3 : decide (c.op ≤ 7) = false := decide_eq_false (by omega)
      have hr : Hid (R = (B && decide (1 ≤ c.set.length) && decide (c.set.length ≤ 6) && (!S))) := by show _ = _; rw [HR.out, if_neg h1, if_neg h27, if_neg h8, if_pos h9]
      clear HR h1 h27 h8 h9 e27
      generalize c.set.length = n at *
      cases B
      · go_wp2_with fail
        go_ret
        exact ⟨by rw [hr.out]; rfl, hxw⟩
      · by_cases hz : 1 ≤ n
        · have z1 : decide ((1 : Int) ≤ (n : Int)) = true := decide_eq_true (by omega)
          have z2 : 1 ≤ n := hz
          by_cases hy : n ≤ 6
          · have y1 : decide ((n : Int) ≤ 6) = true := decide_eq_true (by omega)
            have y2 : n ≤ 6 := hy
            go_wp2_with fail
            go_ret
            exact ⟨by rw [hr.out, decide_eq_true hz, decide_eq_true hy]; rfl, hxw⟩
          · have y1 : decide ((n : Int) ≤ 6) = false := decide_eq_false (by omega)
            have y2 : ¬ n ≤ 6 := hy
            go_wp2_with fail
            go_ret
            exact ⟨by rw [hr.out, decide_eq_true hz, decide_eq_false hy]; rfl, hxw⟩
        · have z1 : decide ((1 : Int) ≤ (n : Int)) = false := decide_eq_false (by omega)
          have z2 : ¬ 1 ≤ n := hz
          have z3 : n = 0 := by omega
          go_wp2_with fail
          go_ret
          exact ⟨by rw [hr.out, decide_eq_false hz]; cases S <;> rfl, hxw⟩
    have e9 := beq_int_ne h9
    have hr : Hid (R = false) := by show _ = _; rw [HR.out, if_neg h1, if_neg h27, if_neg h8, if_neg h9]
    clear HR h1 h27 h8 h9
    rcases e27 with e2 | ⟨e2, e7⟩
    · go_wp2_with fail
      go_ret
      exact ⟨by rw [hr.out]; rfl, hxw⟩
    · go_wp2_with fail
      go_ret
      exact ⟨by rw [hr.out]; rfl, hxw⟩

set_option maxRecDepth 100000 in
set_option maxHeartbeats 2000000 in
theorem may63_any (w : World) (c : C) (sa : Option Addr) (sc : Nat) (hs : SetR w (.slice sa c.set.length sc) c.set) :
    Calls Tryz.prog 40 #[.agg #[.string (strOf c.name), .int .i64 c.op, .int .i64 c.v.k, .int .i64 c.v.n, .string (strOf c.v.s), .bool c.v.b, .slice sa c.set.length sc]] w
      fun e w' => e = .returned (.bool (!mayC c)) ∧ Ext w w' := by
  have hx0 : Ext w (w.alloc (.cells #[.string (strOf c.name), .int .i64 c.op, .int .i64 c.v.k, .int .i64 c.v.n, .string (strOf c.v.s), .bool c.v.b, .slice sa c.set.length sc] 64)) := (Ext.refl w).alloc _
  have hs0 := hs.ext hx0
  go_enter Tryz.func40, Tryz.ntmps40
  go_wp2_with (go_at_call 41; refine (maycons_any _ c sa sc hs0).mono ?_; rintro e w2 ⟨rfl, hx2⟩)
  go_ret
  exact ⟨rfl, hx0.trans hx2⟩

set_option maxRecDepth 100000 in
set_option maxHeartbeats 2000000 in
theorem pmay_any (w : World) (v : Value) (p : List C) (hp : PredR w v p) :
    Calls Tryz.prog 10 #[v] w fun e w' => e = .returned (.bool (mayP p)) ∧ Ext w w' := by
  have hcon := fun W (hx : Ext w W) => hasC_any W v p (hp.ext hx) 40 #[] (fun c => !mayC c) ent63 (fun W' x sa sc _ _ hs => may63_any W' x sa sc hs)
  have hres : mayP p = (decide (p.length ≤ 6) && !(p.any fun c => !mayC c)) := by
    unfold mayP
    congr 1
    clear hp hcon
    induction p with
    | nil => rfl
    | cons c p ih => rw [List.all_cons, List.any_cons, ih]; cases mayC c <;> simp
  rw [hres]
  obtain ⟨ap, cp, rfl, hcp, hmp⟩ := hp.shape
  unfold maxLen at hmp
  clear hres hp
  generalize (p.any fun c => !mayC c) = S at *
  by_cases hl : p.length ≤ 6
  · have d1 : decide ((p.length : Int) ≤ 6) = true := decide_eq_true (by omega)
    rw [decide_eq_true hl]
    go_enter Tryz.func10, Tryz.ntmps10
    go_wp2_with (go_at_call 39; refine (hcon _ (Ext.refl _)).mono ?_; rintro e w' ⟨rfl, hx⟩)
    go_ret
    exact ⟨rfl, hx⟩
  · have d1 : decide ((p.length : Int) ≤ 6) = false := decide_eq_false (by omega)
    rw [decide_eq_false hl]
    go_enter Tryz.func10, Tryz.ntmps10
    go_wp2_with fail
    go_ret
    exact ⟨rfl, Ext.refl w⟩
end Go.Proofs.YtlhbpflcffjhmaaGreat
