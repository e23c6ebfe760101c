/- Disk: the first error of some questions. -/
import Derived.Test.YtdfnfmanpdafpaaDoorD4
import Derived.Shelf.Abstract
namespace Go.Proofs.YtdfnfmanpdafpaaDoor
open Go.RowKit

def FirstT (ra : Nat) : List Value → World → (Int → World → Prop) → Prop
  | [], w, Q => Q 0 w
  | v :: l, w, Q => ∃ G fi cb, v = .func (.func G) fi cb ∧ (∀ args w, (callFunc G args).run Tryd.prog w = .ok (.enter G args) w) ∧
      Calls Tryd.prog G (fi ++ cb) w fun e w' => ∃ c, e = .returned (.int .i64 c) ∧ w'.heap[ra]? = w.heap[ra]? ∧ ((c = 0 ∧ FirstT ra l w' Q) ∨ (c ≠ 0 ∧ Q c w'))
set_option maxRecDepth 100000 in
set_option maxHeartbeats 4000000 in
theorem firstq_any (w : World) (ra : Nat) (vs : List Value) (Q : Int → World → Prop) (hra : w.heap[ra]? = some (.cells vs.toArray 61 (0, 0))) (hl : vs.length ≤ 5) (h : FirstT ra vs w Q) :
    Calls Tryd.prog 33 #[.slice (some ⟨ra, 0, none⟩) vs.length vs.length] w fun e w' => ∃ c, e = .returned (.int .i64 c) ∧ Q c w' := by
  obtain ⟨n, hn⟩ : ∃ n, n = vs.length := ⟨_, rfl⟩
  have HN := Lib.hid hn
  rw [← hn] at hl ⊢
  have HRA := Lib.hid hra
  have HF := Lib.hid h
  clear hn hra h
  go_enter Tryd.func33, Tryd.ntmps33
  go_wp2_with fail
  go_loopw [8] (fun i wr => ∃ k : Nat, k ≤ n ∧ i = .int .i64 k ∧ Hid (wr.heap[ra]? = some (.cells vs.toArray 61 (0, 0))) ∧ Hid (FirstT ra (vs.drop k) wr Q)) (fun i _ => n - (intOf i).toNat)
  case atStart => exact ⟨0, Nat.zero_le _, rfl, HRA.out, HF.out⟩
  case round =>
    clear HRA HF
    obtain ⟨k, hk, rfl, hra, hF⟩ := hrel
    by_cases hlt : k < n
    · have hI : decide ((k : Int) < (n : Int)) = true := decide_eq_true (by omega)
      have hkN : (k : Int) < (n : Int) := by omega
      have hkl : k < vs.length := by have := HN.out; omega
      have hd : vs.drop k = vs[k] :: vs.drop (k + 1) := List.drop_eq_getElem_cons hkl
      have hc := cell_of_row wr ra k vs.toArray 61 (0, 0) hra.out
      have hvk : vs.toArray[k]? = some vs[k] := by simp [hkl]
      rw [hvk] at hc
      have hF2 := hF.out
      rw [hd] at hF2
      obtain ⟨G, fi, cb, hv, eg, hcall⟩ := hF2
      have hg : wr.cell? ⟨ra, 0 + k * 1, none⟩ = some (.func (.func G) fi cb) := by rw [← hv]; simpa using hc
      have hg2 : wr.cell? ⟨ra, k, none⟩ = some (.func (.func G) fi cb) := by rw [← hv]; simpa using hc
      have HC := Lib.hid hcall
      clear hcall hc hvk hv hd hF
      generalize vs[k] = v at *
      go_upto_region 5 with (go_at_fn G; refine HC.out.mono ?_; rintro e w7 ⟨c, rfl, hr7, hq7⟩; have HR7 := Lib.hid hr7; have HQ7 := Lib.hid hq7; clear hr7 hq7)
      have HR8 : Hid (w7.heap[ra]? = some (.cells vs.toArray 61 (0, 0))) := HR7.out.trans hra.out
      have hq := HQ7.out
      clear HQ7 HC HR7 hra
      rcases hq with ⟨rfl, hq⟩ | ⟨hne, hq⟩
      · have HQ := Lib.hid hq
        clear hq
        go_wp2_with fail
        go_roundw
        case rel => exact ⟨k + 1, hlt, by go_num, HR8.out, HQ.out⟩
        case measure => simp [intOf]; omega
      · have HQ := Lib.hid hq
        have hcn : ((c : Int) != 0) = true := by rw [bne_iff_ne]; exact hne
        clear hq hne
        go_wp2_with fail
        exact bodyPost_ret (v := .int .i64 c) (by simp [results, Tryd.results33, go_sem]) rfl ⟨_, rfl, HQ.out⟩
    · obtain rfl : k = n := by omega
      have hI : decide ((k : Int) < (k : Int)) = false := decide_eq_false (by omega)
      have hall : vs.drop k = [] := List.drop_eq_nil_of_le (by have := HN.out; omega)
      rw [hall] at hF
      go_wp2_with fail
      exact bodyPost_ret (v := .int .i64 0) (by simp [results, Tryd.results33, go_sem]) rfl ⟨_, rfl, hF.out⟩

/-! Questions that only read, and the power's. -/
def QOk (w0 : World) (v : Value) (c : Int) : Prop :=
  ∃ G fi cb, v = .func (.func G) fi cb ∧ (∀ args w, (callFunc G args).run Tryd.prog w = .ok (.enter G args) w) ∧
    ∀ w, Ext w0 w → Calls Tryd.prog G (fi ++ cb) w fun e w' => e = .returned (.int .i64 c) ∧ Ext w w'
def QsOk (w0 : World) : List (Value × Int) → Prop
  | [] => True
  | x :: l => QOk w0 x.1 x.2 ∧ (x.2 = 0 → QsOk w0 l)
theorem firstT_of (w0 : World) (ra : Nat) (hra : ra < w0.heap.size) : ∀ (l : List (Value × Int)) (m : List Value) (w : World) (Q : Int → World → Prop), Ext w0 w → QsOk w0 l →
    (∀ w', Ext w w' → Ext w0 w' → firstE (l.map (·.2)) = 0 → FirstT ra m w' Q) → (∀ w', Ext w w' → firstE (l.map (·.2)) ≠ 0 → Q (firstE (l.map (·.2))) w') → FirstT ra (l.map (·.1) ++ m) w Q
  | [], m, w, Q, hx, _, h1, _ => h1 w (Ext.refl w) hx rfl
  | (v, c) :: l, m, w, Q, hx, hq, h1, h2 => by
    obtain ⟨⟨G, fi, cb, hv, eg, hc⟩, hl⟩ := hq
    refine ⟨G, fi, cb, hv, eg, (hc w hx).mono ?_⟩
    rintro e w' ⟨rfl, hg⟩
    refine ⟨c, rfl, hg.block ra (Nat.lt_of_lt_of_le hra hx.size), ?_⟩
    by_cases h0 : c = 0
    · subst h0
      refine .inl ⟨rfl, firstT_of w0 ra hra l m w' Q (hx.trans hg) (hl rfl) (fun w2 g2 x2 e2 => h1 w2 (hg.trans g2) x2 ?_) (fun w2 g2 e2 => ?_)⟩
      · simp only [List.map_cons, firstE, if_pos]; exact e2
      · have := h2 w2 (hg.trans g2) (by simp only [List.map_cons, firstE, if_pos]; exact e2)
        simpa only [List.map_cons, firstE, if_pos] using this
    · have e : firstE ((v, c) :: l |>.map (·.2)) = c := by simp only [List.map_cons, firstE, if_neg h0]
      exact .inr ⟨h0, by have := h2 w' hg (by rw [e]; exact h0); rwa [e] at this⟩
/-- Questions that only read. -/
theorem firstq_read (w0 : World) (ra : Nat) (l : List (Value × Int)) (hra : w0.heap[ra]? = some (.cells (l.map (·.1)).toArray 61 (0, 0))) (hl : l.length ≤ 5) (hq : QsOk w0 l) :
    Calls Tryd.prog 33 #[.slice (some ⟨ra, 0, none⟩) l.length l.length] w0 fun e w' => e = .returned (.int .i64 (firstE (l.map (·.2)))) ∧ Ext w0 w' := by
  have h := firstq_any w0 ra (l.map (·.1)) (fun c w' => c = firstE (l.map (·.2)) ∧ Ext w0 w') hra (by rw [List.length_map]; exact hl) (by
    have := firstT_of w0 ra (Array.getElem?_eq_some_iff.1 hra).1 l [] w0 (fun c w' => c = firstE (l.map (·.2)) ∧ Ext w0 w') (Ext.refl w0) hq (fun w' hg _ e => ⟨e.symm, hg⟩) (fun w' hg _ => ⟨rfl, hg⟩)
    rwa [List.append_nil] at this)
  rw [List.length_map] at h
  refine h.mono ?_
  rintro e w' ⟨c, rfl, rfl, hg⟩
  exact ⟨rfl, hg⟩
/-- .. and the power's as the last one. -/
theorem firstq_burns (w0 : World) (ra b : Nat) (l : List (Value × Int)) (hra : w0.heap[ra]? = some (.cells (l.map (fun x => x.1) ++ [Value.func (Fn.func 39) #[.pointer (some ⟨b, 0, none⟩)] #[]]).toArray 61 (0, 0))) (hl : l.length ≤ 4) (hq : QsOk w0 l)
    (m : Value) (q fz : Int) (off : Bool) (hb : DkB w0 b m q fz off) (hn : b ≠ ra) (f0 : -1 ≤ fz) (f1 : fz < 9223372036854775808) :
    Calls Tryd.prog 33 #[.slice (some ⟨ra, 0, none⟩) (l.length + 1) (l.length + 1)] w0 fun e w' => ∃ w1, Ext w0 w1 ∧
      ((firstE (l.map (·.2)) ≠ 0 ∧ e = .returned (.int .i64 (firstE (l.map (·.2)))) ∧ w' = w1) ∨
       (firstE (l.map (·.2)) = 0 ∧ fz = 0 ∧ e = .returned (.int .i64 8) ∧ w' = (w1.setCell ⟨b, 3, none⟩ (.bool true)).setCell ⟨b, 2, none⟩ (.int .i64 (-1))) ∨
       (firstE (l.map (·.2)) = 0 ∧ fz < 0 ∧ e = .returned (.int .i64 0) ∧ w' = w1) ∨
       (firstE (l.map (·.2)) = 0 ∧ 0 < fz ∧ e = .returned (.int .i64 0) ∧ w' = w1.setCell ⟨b, 2, none⟩ (.int .i64 (fz - 1)))) := by
  have eb : ∀ args w, (callFunc 39 args).run Tryd.prog w = .ok (.enter 39 args) w := enters_of Tryd.func39 (by kernel_rfl) rfl
  have h := firstq_any w0 ra (l.map (fun x => x.1) ++ [Value.func (Fn.func 39) #[.pointer (some ⟨b, 0, none⟩)] #[]]) (fun c w' => ∃ w1, Ext w0 w1 ∧
      ((firstE (l.map (·.2)) ≠ 0 ∧ c = firstE (l.map (·.2)) ∧ w' = w1) ∨
       (firstE (l.map (·.2)) = 0 ∧ fz = 0 ∧ c = 8 ∧ w' = (w1.setCell ⟨b, 3, none⟩ (.bool true)).setCell ⟨b, 2, none⟩ (.int .i64 (-1))) ∨
       (firstE (l.map (·.2)) = 0 ∧ fz < 0 ∧ c = 0 ∧ w' = w1) ∨
       (firstE (l.map (·.2)) = 0 ∧ 0 < fz ∧ c = 0 ∧ w' = w1.setCell ⟨b, 2, none⟩ (.int .i64 (fz - 1))))) hra (by rw [List.length_append, List.length_map]; simp; omega)
    (firstT_of w0 ra (Array.getElem?_eq_some_iff.1 hra).1 l _ w0 _ (Ext.refl w0) hq (fun w1 hg hx e0 => by
      have hb1 : DkB w1 b m q fz off := block_later hb hg
      refine ⟨39, _, _, rfl, eb, ?_⟩
      show Calls Tryd.prog 39 #[.pointer (some ⟨b, 0, none⟩)] w1 _
      rcases Int.lt_trichotomy fz 0 with h0 | h0 | h0
      · refine (burns_holds w1 b m q fz off hb1 h0).mono ?_
        rintro e w' ⟨rfl, rfl⟩
        exact ⟨0, rfl, rfl, .inl ⟨rfl, _, hg, .inr (.inr (.inl ⟨e0, h0, rfl, rfl⟩))⟩⟩
      · subst h0
        refine (burns_out w1 b m q off hb1).mono ?_
        rintro e w' ⟨rfl, rfl⟩
        refine ⟨8, rfl, ?_, .inr ⟨by decide, _, hg, .inr (.inl ⟨e0, rfl, rfl, rfl⟩)⟩⟩
        rw [setCell_farD _ _ _ _ (fun e => hn e.symm), setCell_farD _ _ _ _ (fun e => hn e.symm)]
      · refine (burns_one w1 b m q fz off hb1 h0 f1).mono ?_
        rintro e w' ⟨rfl, rfl⟩
        refine ⟨0, rfl, ?_, .inl ⟨rfl, _, hg, .inr (.inr (.inr ⟨e0, h0, rfl, rfl⟩))⟩⟩
        rw [setCell_farD _ _ _ _ (fun e => hn e.symm)]) (fun w' hg e0 => ⟨w', hg, .inl ⟨e0, rfl, rfl⟩⟩))
  have hlen : (l.map (·.1) ++ [Value.func (.func 39) #[.pointer (some ⟨b, 0, none⟩)] #[]]).length = l.length + 1 := by simp
  rw [hlen] at h
  refine h.mono ?_
  rintro e w' ⟨c, rfl, w1, hg, h⟩
  refine ⟨w1, hg, ?_⟩
  rcases h with ⟨h1, rfl, h2⟩ | ⟨h1, h2, rfl, h3⟩ | ⟨h1, h2, rfl, h3⟩ | ⟨h1, h2, rfl, h3⟩
  · exact .inl ⟨h1, rfl, h2⟩
  · exact .inr (.inl ⟨h1, h2, rfl, h3⟩)
  · exact .inr (.inr (.inl ⟨h1, h2, rfl, h3⟩))
  · exact .inr (.inr (.inr ⟨h1, h2, rfl, h3⟩))
end Go.Proofs.YtdfnfmanpdafpaaDoor
