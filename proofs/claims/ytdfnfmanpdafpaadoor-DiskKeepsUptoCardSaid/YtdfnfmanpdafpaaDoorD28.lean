/- Disk: bytes as picks; a disk whose power holds; what a crash keeps, plainly. -/
import Derived.Test.YtdfnfmanpdafpaaDoorD27
namespace Go.Proofs.YtdfnfmanpdafpaaDoor
open Go.RowKit

theorem infoU16 : (Tryd.prog.info? 59).map (fun i => (i.zero, i.size, i.bytes)) = some (some (.int .u16 0), 1, 2) := by kernel_rfl
def pk16 (l : List UInt8) : List Nat := l.map fun c => c.toNat
theorem one_u16 (x : Int) : ∀ u ∈ [Value.int .u16 x], u.oneCell' = true := by
  intro u hu
  rw [List.mem_singleton] at hu; subst hu; rfl
set_option maxRecDepth 100000 in
set_option maxHeartbeats 8000000 in
theorem torn16_any (w : World) (v : Value) (l : List UInt8) (hl : Bytes w v l) (hm : l.length ≤ 1048576) :
    Calls Tryd.prog 15 #[v] w fun e w' => ∃ v', e = .returned v' ∧ w'.ownsRow w.heap.size 59 1 v' (pk16 l).length (u16V (pk16 l)) ∧ Ext w w' := by
  obtain ⟨a, cap, rfl, hc, hcm⟩ := hl.shape
  obtain ⟨n, hn⟩ : ∃ n, n = l.length := ⟨_, rfl⟩
  have HN := Lib.hid hn
  have HL := Lib.hid hl
  rw [← hn] at hm hc HL ⊢
  clear hl hn
  go_enter Tryd.func15, Tryd.ntmps15
  go_wp2_with fail
  go_loopw [3, 8] (fun vo i wr => ∃ k : Nat, k ≤ n ∧ i = .int .i64 k ∧ Hid (wr.ownsRow w.heap.size 59 1 vo k (u16V (pk16 (l.take k)))) ∧ Hid (Ext w wr)) (fun _ i _ => n - (intOf i).toNat)
  case atStart => exact ⟨0, Nat.zero_le _, rfl, own_none _ _ _ _, Ext.refl _⟩
  case round =>
    obtain ⟨k, hk, rfl, HO, HX⟩ := hrel
    by_cases hlt : k < n
    · have hI : decide ((k : Int) < (n : Int)) = true := decide_eq_true (by omega)
      have hkN : (k : Int) < (n : Int) := by omega
      have hkl : k < l.length := by have := HN.out; omega
      have hbw : Row wr 1 (.slice a n cap) n (bV l) := by have := HL.out.ext HX.out; unfold Bytes at this; rw [← HN.out] at this; exact this
      obtain ⟨B, o, rfl⟩ := Row.base hbw (by omega) (by decide)
      have c1 := Row.cellAt hbw (j := k) (u := .int .u8 (l[k].toNat : Int)) (by unfold bV; rw [List.getElem?_map, List.getElem?_eq_getElem hkl]; rfl) (by omega)
      have htk : pk16 (l.take (k + 1)) = pk16 (l.take k) ++ [l[k].toNat] := by unfold pk16; rw [List.take_succ_eq_append_getElem hkl, List.map_append]; rfl
      have HTK := Lib.hid htk
      have hx256 := l[k].toNat_lt
      clear htk hbw
      generalize l[k].toNat = x at *
      clear hkl
      obtain ⟨oa, oc, rfl, _, _⟩ := own_shape HO.out
      have hwp : IntKind.u16.wrap (x : Int) = (x : Int) := by rw [IntKind.wrap_u16]; omega
      have hb1 : (k + 1) * 2 ≤ 140737488355328 := by omega
      have hb2 : k + 1 ≤ maxLen := by unfold maxLen; omega
      have h1 := own_ext HO.out ((Ext.refl wr).alloc (.cells #[.int .u16 (x : Int)] 59))
      have h2 := lit_u16D wr [x] #[.int .u16 (x : Int)] 1 rfl rfl (by unfold maxLen; omega)
      have hbz : w.heap.size ≤ (wr.alloc (.cells #[.int .u16 (x : Int)] 59)).heap.size := by rw [World.size_alloc]; have := HX.out.size; omega
      have H1 := Lib.hid h1
      have H2 : Hid (Row (wr.alloc (.cells #[.int .u16 (x : Int)] 59)) 1 (.slice (some ⟨wr.heap.size, 0, none⟩) 1 1) 1 [.int .u16 (x : Int)]) := h2
      clear h1 h2
      go_upto_region 6 with (refine wpList_append_row 23 59 (.tmp 12) (.tmp 15) rfl w.heap.size _ 1 2 Tryd.underlying23 infoU16 rfl (by decide) rfl _ k (u16V (pk16 (l.take k))) rfl H1.out 1 [.int .u16 (x : Int)] H2.out (one_u16 _) hb1 hb2 hbz ?_; intro v2 w2 ho2 hg2; have HO2 := Lib.hid ho2; have HG2 := Lib.hid hg2; clear ho2 hg2)
      have ho3 : w2.ownsRow w.heap.size 59 1 v2 (k + 1) (u16V (pk16 (l.take (k + 1)))) := by
        rw [HTK.out]
        have := HO2.out
        unfold u16V at this ⊢
        rw [List.map_append]
        exact this
      have hx3 : Ext w w2 := (HX.out.trans ((Ext.refl wr).alloc (.cells #[.int .u16 (x : Int)] 59))).grown_none HG2.out fun q hq => own_base HO.out q hq
      have HO3 := Lib.hid ho3
      have HX3 := Lib.hid hx3
      obtain ⟨va, vc, rfl, _, _⟩ := own_shape ho3
      clear ho3 hx3 HO2 HG2 H1 H2 c1 hwp hb1 hb2 hbz
      go_wp2_with fail
      go_roundw
      case rel => exact ⟨k + 1, hlt, by go_num, HO3.out, HX3.out⟩
      case measure => simp [intOf]; omega
    · obtain rfl : k = n := by omega
      have hI : decide ((k : Int) < (k : Int)) = false := decide_eq_false (by omega)
      have hall : l.take k = l := List.take_of_length_le (by rw [HN.out]; exact Nat.le_refl _)
      rw [hall] at HO
      have hpl : (pk16 l).length = k := by unfold pk16; rw [List.length_map]; exact HN.out.symm
      have HPL := Lib.hid hpl
      obtain ⟨oa, oc, rfl, _, _⟩ := own_shape HO.out
      clear hall hpl
      go_wp2_with fail
      go_ret
      exact ⟨_, rfl, by rw [HPL.out]; exact HO.out, HX.out⟩

/-! The power holds. -/
theorem calm_askd {S : DS} (ho : S.off = false) (hz : S.fz = -1) {l : List Int} {act : List Fl → List Fl} : (askdS S l act).off = false ∧ (askdS S l act).fz = -1 := by
  have hb : burnS S = S := by unfold burnS; rw [if_neg (by omega), if_neg (by omega)]
  unfold askdS
  split
  · rw [hb]
    split <;> exact ⟨ho, hz⟩
  · exact ⟨ho, hz⟩
theorem calm_do {S : DS} (ho : S.off = false) (hz : S.fz = -1) {a : AD} (h7 : a.what ≠ 7) : (doS S a).off = false ∧ (doS S a).fz = -1 := by
  unfold doS
  by_cases e0 : a.what = 0
  · rw [if_pos e0]; exact calm_askd ho hz
  rw [if_neg e0]
  by_cases e1 : a.what = 1
  · rw [if_pos e1]; exact calm_askd ho hz
  rw [if_neg e1]
  by_cases e2 : a.what = 2
  · rw [if_pos e2]; exact calm_askd ho hz
  rw [if_neg e2]
  by_cases e3 : a.what = 3
  · rw [if_pos e3]; exact calm_askd ho hz
  rw [if_neg e3]
  by_cases e4 : a.what = 4
  · rw [if_pos e4]; exact calm_askd ho hz
  rw [if_neg e4]
  by_cases e5 : a.what = 5
  · rw [if_pos e5]; exact calm_askd ho hz
  rw [if_neg e5]
  by_cases e6 : a.what = 6
  · rw [if_pos e6]; unfold quotaS; split <;> exact ⟨ho, hz⟩
  rw [if_neg e6, if_neg h7]
  by_cases e8 : a.what = 8
  · rw [if_pos e8]; exact ⟨rfl, rfl⟩
  rw [if_neg e8]
  exact ⟨ho, hz⟩

/-! What a crash keeps. -/
/-- What is left of a file. -/
structure Left (f g : Fl) : Prop where
  nm : g.nm = f.nm
  whole : g.fast = g.b.length
  ge : f.fast ≤ g.b.length
  le : g.b.length ≤ f.b.length
  fast : g.b.take f.fast = f.b.take f.fast
  most : f.fast < g.b.length → g.b.take (g.b.length - 1) = f.b.take (g.b.length - 1)
theorem crashF_left (f : Fl) (hf : f.fast ≤ f.b.length) (p : Option Nat) (t : Option UInt8) : Left f (crashF f p t) := by
  obtain ⟨h1, h2⟩ := crashF_len f p t hf
  obtain ⟨st, hst⟩ : ∃ st, st = stayN f p := ⟨_, rfl⟩
  rw [← hst] at h1 h2
  have hb : (crashF f p t).b = tornB (f.b.take (f.fast + st)) st t := by rw [hst]; rfl
  have hl : (f.b.take (f.fast + st)).length = f.fast + st := by rw [List.length_take]; omega
  have key : ∀ m, m ≤ f.fast + st - 1 ∨ st = 0 ∧ m ≤ f.fast → (tornB (f.b.take (f.fast + st)) st t).take m = f.b.take m := by
    intro m hm
    unfold tornB
    cases t with
    | none => show (f.b.take (f.fast + st)).take m = _; rw [List.take_take, Nat.min_eq_left (by omega)]
    | some t =>
      show (if 0 < st then _ else _ : List UInt8).take m = _
      split
      · rename_i h0
        rw [hl, List.take_take, Nat.min_eq_left (by omega : f.fast + st - 1 ≤ f.fast + st), List.take_append_of_le_length (by rw [List.length_take]; omega), List.take_take, Nat.min_eq_left (by omega)]
      · rw [List.take_take, Nat.min_eq_left (by omega)]
  refine ⟨rfl, rfl, by rw [h1]; omega, by rw [h1]; omega, ?_, fun hlt => ?_⟩
  · rw [hb]
    by_cases h0 : st = 0
    · exact key _ (.inr ⟨h0, Nat.le_refl _⟩)
    · exact key _ (.inl (by omega))
  · rw [h1] at hlt ⊢
    rw [hb]
    exact key _ (.inl (Nat.le_refl _))
theorem crashL_left (ps : List Nat) (ts : List UInt8) : ∀ (l : List Fl) (k : Nat), (∀ f ∈ l, f.fast ≤ f.b.length) → ∀ (i : Nat) (f : Fl), l[i]? = some f → ∃ g : Fl, (crashL ps ts k l)[i]? = some g ∧ Left f g
  | [], _, _, i, f, h => by simp at h
  | x :: l, k, hf, i, f, h => by
    rw [crashL]
    have hx := hf x (by simp)
    split
    · rename_i e
      cases i with
      | zero =>
        simp at h
        subst h
        exact ⟨x, by simp, rfl, e.symm, by omega, Nat.le_refl _, rfl, fun h => by omega⟩
      | succ i =>
        obtain ⟨g, hg, hl⟩ := crashL_left ps ts l k (fun y hy => hf y (by simp [hy])) i f (by simpa using h)
        exact ⟨g, by simpa using hg, hl⟩
    · cases i with
      | zero =>
        simp at h
        subst h
        exact ⟨crashF x ps[k]? ts[k]?, by simp, crashF_left x hx _ _⟩
      | succ i =>
        obtain ⟨g, hg, hl⟩ := crashL_left ps ts l (k + 1) (fun y hy => hf y (by simp [hy])) i f (by simpa using h)
        exact ⟨g, by simpa using hg, hl⟩
/-- What is whole a crash leaves as it is. -/
theorem crashL_same (ps : List Nat) (ts : List UInt8) : ∀ (l : List Fl) (k : Nat), (∀ f ∈ l, f.fast = f.b.length) → crashL ps ts k l = l
  | [], _, _ => rfl
  | x :: l, k, hf => by
    rw [crashL, if_pos (hf x (by simp)).symm, crashL_same ps ts l k fun y hy => hf y (by simp [hy])]
end Go.Proofs.YtdfnfmanpdafpaaDoor
