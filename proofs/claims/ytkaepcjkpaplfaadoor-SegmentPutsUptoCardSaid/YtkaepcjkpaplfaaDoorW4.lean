/- Records: the next one, of the program; a record's frame, of the reference. -/
import Derived.Test.YtkaepcjkpaplfaaDoorW3
namespace Go.Proofs.YtkaepcjkpaplfaaDoor
open Go.RowKit

/-- A record that was told: the part behind the head of bytes of the call's own. -/
def Rec (w : World) (base : Nat) (v : Value) (r : List UInt8) : Prop :=
  ∃ g cap h4, h4.length = 4 ∧ 1 ≤ r.length ∧ OwnB w base (.slice (some ⟨g, 0, none⟩) (4 + r.length) cap) (h4 ++ r) ∧ v = .slice (some ⟨g, 4, none⟩) r.length (cap - 4)

theorem Rec.ext {w w' : World} {base : Nat} {v : Value} {r : List UInt8} (h : Rec w base v r) (hx : Ext w w') : Rec w' base v r := by
  obtain ⟨g, cap, h4, h1, h2, h3, h5⟩ := h; exact ⟨g, cap, h4, h1, h2, h3.ext hx, h5⟩
theorem Rec.mono {w : World} {base base' : Nat} {v : Value} {r : List UInt8} (h : Rec w base v r) (hb : base' ≤ base) : Rec w base' v r := by
  obtain ⟨g, cap, h4, h1, h2, h3, h5⟩ := h; exact ⟨g, cap, h4, h1, h2, h3.mono hb, h5⟩
theorem Rec.bytes {w : World} {base : Nat} {v : Value} {r : List UInt8} (h : Rec w base v r) : Bytes w v r := by
  obtain ⟨g, cap, h4, h1, h2, h3, rfl⟩ := h
  obtain ⟨hl, a, cap', e, hc, hm, hnil, hspot, hcell⟩ := h3.bytes
  simp only [Value.slice.injEq] at e
  obtain ⟨rfl, en, rfl⟩ := e
  refine ⟨by simp, some ⟨g, 4, none⟩, _, rfl, by omega, by omega, by simp, by simp, fun j u hj => ⟨_, rfl, ?_⟩⟩
  obtain ⟨p, hp, hcl⟩ := hcell (4 + j) u (by
    rw [List.map_append, List.getElem?_append_right (by simp [h1]), List.length_map, h1, Nat.add_sub_cancel_left]; exact hj)
  simp only [Option.some.injEq] at hp; subst hp
  simpa using hcl

def RecOr (w : World) (base : Nat) (v : Value) : Option (List UInt8) → Prop
  | none => v = .slice none 0 0
  | some r => Rec w base v r

set_option maxHeartbeats 1000000 in
theorem next_any (w : World) (bB aB : Nat) (v : Value) (b : List UInt8) (p : Nat) (hb : w.cell? ⟨bB, 0, none⟩ = some v) (hv : Bytes w v b)
    (ha : w.cell? ⟨aB, 0, none⟩ = some (.int .i64 (p : Int))) (hp : p ≤ b.length) :
    Calls Tryd.prog 66 #[.pointer (some ⟨bB, 0, none⟩), .pointer (some ⟨aB, 0, none⟩)] w fun e w' => ∃ v', e = .returned v' ∧ Ext w w' ∧ RecOr w' w.heap.size v' (nextR (b.drop p)) := by
  obtain ⟨a, cap, rfl, hc, hm⟩ := hv.shape
  unfold maxLen at hm
  have hlen : (b.drop p).length = b.length - p := by simp
  have hcut : ∀ k, (b.take (p + k)).drop p = (b.drop p).take k := fun k => by rw [List.drop_take, Nat.add_sub_cancel_left]
  by_cases h4 : b.length - p < 4
  · have hd1 : decide ((b.length : Int) - p < 4) = true := decide_eq_true (by omega)
    have hn : nextR (b.drop p) = none := by rw [nextR, if_pos (by omega)]
    have HN := Lib.hid hn; clear hn
    go_enter Tryd.func66, Tryd.ntmps66
    go_wp2
    go_ret
    exact ⟨_, rfl, Ext.refl w, by rw [HN.out]; rfl⟩
  have hd1 : decide ((b.length : Int) - p < 4) = false := decide_eq_false (by omega)
  have h4' : 4 ≤ (b.drop p).length := by omega
  have hnl := numF_lt (b.drop p)
  have hns : nextR (b.drop p) = if numF (b.drop p) < 1 ∨ 2048 < numF (b.drop p) ∨ (b.drop p).length < numF (b.drop p) + 8 then none
      else if (takeF ((b.drop p).take (numF (b.drop p) + 8))).2 = 0 then some ((takeF ((b.drop p).take (numF (b.drop p) + 8))).1.drop 4) else none := by
    rw [nextR, if_neg (by omega)]
  have en : ((p : Int)).toNat = p := by omega
  have HE := Lib.hid en; clear en
  generalize hD : b.drop p = D at *
  have HD := Lib.hid hD; clear hD
  generalize hNUM : numF D = N at *
  have HNUM := Lib.hid hNUM; clear hNUM
  have HNS := Lib.hid hns; clear hns
  go_enter Tryd.func66, Tryd.ntmps66
  go_wp2_with (refine cutB (.tmp 11) (some (.tmp 12)) none p b.length rfl rfl hv ⟨_, _, rfl, by omega, HE.out⟩ rfl hp (Nat.le_refl _) ?_; intro v13 h13; rw [List.take_length, HD.out] at h13)
  refine (fnumber_any w _ _ h13 h4').mono ?_
  rintro e w1 ⟨rfl, hx1⟩
  rw [HNUM.out]
  have hb1 := hx1.cell hb
  have ha1 := hx1.cell ha
  by_cases t1 : N < 1
  · have hd2 : decide ((N : Int) < 1) = true := decide_eq_true (by omega)
    have hn := HNS.out; rw [if_pos (.inl t1)] at hn
    have HN := Lib.hid hn; clear hn
    go_wp2_with fail
    go_ret
    exact ⟨_, rfl, hx1, by rw [HN.out]; rfl⟩
  have hd2 : decide ((N : Int) < 1) = false := decide_eq_false (by omega)
  by_cases t2 : 2048 < N
  · have hd3 : decide ((2048 : Int) < N) = true := decide_eq_true (by omega)
    have hn := HNS.out; rw [if_pos (.inr (.inl t2))] at hn
    have HN := Lib.hid hn; clear hn
    go_wp2_with fail
    go_ret
    exact ⟨_, rfl, hx1, by rw [HN.out]; rfl⟩
  have hd3 : decide ((2048 : Int) < N) = false := decide_eq_false (by omega)
  by_cases t3 : D.length < N + 8
  · have hd4 : decide ((b.length : Int) - p < 4 + N + 4) = true := decide_eq_true (by omega)
    have hn := HNS.out; rw [if_pos (.inr (.inr t3))] at hn
    have HN := Lib.hid hn; clear hn
    go_wp2_with fail
    go_ret
    exact ⟨_, rfl, hx1, by rw [HN.out]; rfl⟩
  have hd4 : decide ((b.length : Int) - p < 4 + N + 4) = false := decide_eq_false (by omega)
  have hn := HNS.out; rw [if_neg (by omega)] at hn
  have HN2 := Lib.hid hn; clear hn HNS
  have eh : ((p : Int) + 4 + N + 4).toNat = p + (N + 8) := by omega
  have HEH := Lib.hid eh; clear eh
  have hv1 := hv.ext hx1
  go_wp2_with (refine cutB (.tmp 33) (some (.tmp 34)) (some (.tmp 39)) p (p + (N + 8)) rfl rfl hv1 ⟨_, _, rfl, by omega, HE.out⟩ ⟨_, _, rfl, by omega, HEH.out⟩ (by omega) (by omega) ?_; intro v40 h40; rw [hcut] at h40)
  refine (take_any w1 _ _ h40 (by simp; omega)).mono ?_
  rintro e w2 ⟨v41, rfl, ho2, hx2⟩
  have hx12 := hx1.trans hx2
  rcases take_cases (D.take (N + 8)) with ⟨h6, _⟩ | ⟨_, h7⟩ | ⟨h7, h8⟩
  · simp at h6; omega
  · rw [h7] at ho2 ⊢
    have hn := HN2.out; rw [h7, if_neg (by simp)] at hn
    have HN := Lib.hid hn; clear hn
    go_wp2_with fail
    go_ret
    exact ⟨_, rfl, hx12, by rw [HN.out]; rfl⟩
  · rw [h7] at ho2 ⊢
    have hn := HN2.out; rw [h7, if_pos rfl] at hn
    simp only [] at hn
    have hl : (D.take (N + 8)).length = N + 8 := by simp; omega
    rw [hl] at ho2 hn ⊢
    simp only [] at ho2
    clear h7 h8
    have hTl : ((D.take (N + 8)).take (N + 8 - 4)).length = 4 + N := by simp; omega
    generalize (D.take (N + 8)).take (N + 8 - 4) = T at *
    rcases ho2.own_shape with ⟨rfl, e⟩ | ⟨g, cap2, rfl, hg1, hg2, hg3, hg4⟩
    · subst e; exact absurd hTl (by simp; omega)
    rw [hTl] at ho2 hg3 ⊢
    have hne : cap2 ≠ 4 := by omega
    unfold maxLen at hg4
    have hrec : RecOr w2 w.heap.size (.slice (some ⟨g, 4, none⟩) N (cap2 - 4)) (nextR (b.drop p)) := by
      rw [HD.out, hn]
      have hdl : (T.drop 4).length = N := by simp; omega
      refine Rec.mono (base := w1.heap.size) ⟨g, cap2, T.take 4, by simp; omega, by omega, ?_, by rw [hdl]⟩ hx1.size
      rw [List.take_append_drop, hdl]; exact ho2
    clear hn ho2
    go_wp2_with fail
    go_ret
    rw [HD.out] at hrec
    refine ⟨_, rfl, hx12, ?_⟩
    first | exact hrec | simpa using hrec

end Go.Proofs.YtkaepcjkpaplfaaDoor
