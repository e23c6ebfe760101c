/- Disk: a law's call on a disk of one's own; what an error leaves. -/
import Derived.Test.YtdfnfmanpdafpaaDoorD26
namespace Go.Proofs.YtdfnfmanpdafpaaDoor
open Go.RowKit

theorem AtD.doit {w wr : World} {b : Nat} {S : DS} (k : AtD w b S wr) {x : AX} (ha : ActR w x.a x.vb x.vp) (hn : x.a.n < 9223372036854775808) :
    Calls Tryd.prog 8 #[.pointer (some ⟨b, 0, none⟩), actV x.a.what x.a.nm x.a.ot x.vb x.a.n x.vp] wr fun e w' => e = .returned (.int .i64 (doE S x.a)) ∧ AtD w b (doS S x.a) w' := by
  obtain ⟨ok, F, h1, h2, h3⟩ := k
  refine (do_any wr b F S x.a x.vb x.vp h1 ok (ha.ext h2) fun hne B o k' c e hm => ?_).mono ?_
  · have hr := ha.ps
    rw [e] at hr
    have := Row.lt hr (by unfold u16V; intro e2; exact hne (List.map_eq_nil_iff.1 e2))
    have := h3 B hm
    omega
  · rintro e w' ⟨rfl, F', q1, q2⟩
    exact ⟨rfl, okD_do ok x.a hn, F', q1, q2.turns.ext h2 h3, q2.above h2.size h3⟩
theorem firstE_mem : ∀ {l : List Int}, firstE l ≠ 0 → firstE l ∈ l
  | [], h => absurd rfl h
  | x :: l, h => by
    unfold firstE at h ⊢
    split
    · rename_i h0
      rw [if_pos h0] at h
      exact List.mem_cons_of_mem _ (firstE_mem h)
    · exact List.mem_cons_self ..
/-- What a call's answer leaves of the power. -/
def ErrD (S : DS) (c : Int) (S' : DS) : Prop :=
  (c = 0 ∧ 0 < S.fz ∧ S'.fz = S.fz - 1 ∧ S'.off = false) ∨ (c = 8 ∧ S.fz = 0 ∧ S'.off = true) ∨ (c ≠ 0 ∧ c ≠ 8 ∧ S' = S)
theorem askd_err {S : DS} (ho : S.off = false) (hz : 0 ≤ S.fz) {l : List Int} {act : List Fl → List Fl} (h8 : ∀ e ∈ l, e ≠ 8) : ErrD S (askdE S l) (askdS S l act) := by
  unfold askdE askdS
  by_cases h0 : firstE l = 0
  · rw [if_pos h0, if_pos h0]
    by_cases hf : S.fz = 0
    · have hb : burnE S = 8 := by unfold burnE; rw [if_pos hf]
      rw [hb, if_neg (by decide)]
      refine .inr (.inl ⟨rfl, hf, ?_⟩)
      unfold burnS; rw [if_pos hf]
    · have hb : burnE S = 0 := by unfold burnE; rw [if_neg hf]
      have hs : burnS S = { S with fz := S.fz - 1 } := by unfold burnS; rw [if_neg hf, if_pos (by omega)]
      rw [hb, if_pos rfl, hs]
      exact .inl ⟨rfl, by omega, rfl, ho⟩
  · rw [if_neg h0, if_neg h0]
    exact .inr (.inr ⟨h0, h8 _ (firstE_mem h0), rfl⟩)
theorem off8 {S : DS} (ho : S.off = false) : offE S ≠ 8 := by unfold offE; rw [ho]; decide
theorem err8 {b : Bool} {c : Int} (h : c ≠ 8) : errB b c ≠ 8 := by cases b <;> first | exact h | (show (0 : Int) ≠ 8; decide)
theorem there8 {S : DS} {n : List UInt8} : thereE S n ≠ 8 := by unfold thereE; split <;> (try split) <;> decide
theorem do_err {S : DS} (ho : S.off = false) (hz : 0 ≤ S.fz) {a : AD} (h0 : 0 ≤ a.what) (h5 : a.what ≤ 5) : ErrD S (doE S a) (doS S a) := by
  unfold doE doS
  by_cases e0 : a.what = 0
  · rw [if_pos e0, if_pos e0]
    refine askd_err ho hz fun e he => ?_
    simp only [createL, List.mem_cons, List.not_mem_nil, or_false] at he
    rcases he with rfl | rfl | rfl | rfl
    · exact off8 ho
    · exact err8 (by decide)
    · exact err8 (by decide)
    · exact err8 (by decide)
  rw [if_neg e0, if_neg e0]
  by_cases e1 : a.what = 1
  · rw [if_pos e1, if_pos e1]
    refine askd_err ho hz fun e he => ?_
    simp only [appendL, List.mem_cons, List.not_mem_nil, or_false] at he
    rcases he with rfl | rfl | rfl
    · exact off8 ho
    · exact there8
    · exact err8 (by decide)
  rw [if_neg e1, if_neg e1]
  by_cases e2 : a.what = 2
  · rw [if_pos e2, if_pos e2]
    refine askd_err ho hz fun e he => ?_
    simp only [syncL, List.mem_cons, List.not_mem_nil, or_false] at he
    rcases he with rfl | rfl
    · exact off8 ho
    · exact there8
  rw [if_neg e2, if_neg e2]
  by_cases e3 : a.what = 3
  · rw [if_pos e3, if_pos e3]
    refine askd_err ho hz fun e he => ?_
    simp only [renameL, List.mem_cons, List.not_mem_nil, or_false] at he
    rcases he with rfl | rfl | rfl
    · exact off8 ho
    · exact err8 (by decide)
    · exact there8
  rw [if_neg e3, if_neg e3]
  by_cases e4 : a.what = 4
  · rw [if_pos e4, if_pos e4]
    refine askd_err ho hz fun e he => ?_
    simp only [truncL, List.mem_cons, List.not_mem_nil, or_false] at he
    rcases he with rfl | rfl | rfl | rfl
    · exact off8 ho
    · exact err8 (by decide)
    · exact there8
    · exact err8 (by decide)
  rw [if_neg e4, if_neg e4]
  have e5 : a.what = 5 := by omega
  rw [if_pos e5, if_pos e5]
  refine askd_err ho hz fun e he => ?_
  simp only [syncL, List.mem_cons, List.not_mem_nil, or_false] at he
  rcases he with rfl | rfl
  · exact off8 ho
  · exact there8
theorem AtD.shape {w wr : World} {b : Nat} {S : DS} (k : AtD w b S wr) : Calls Tryd.prog 17 #[.pointer (some ⟨b, 0, none⟩)] wr fun e w' => e = .returned (.string (shapeL (filesD S))) ∧ AtD w b S w' ∧ Ext wr w' := by
  obtain ⟨ok, F, h1, h2, h3⟩ := k
  refine (shape_any wr b F S h1 ok).mono ?_
  rintro e w' ⟨rfl, hx⟩
  exact ⟨rfl, ⟨ok, F, h1.ext hx, h2.trans hx, h3⟩, hx⟩
theorem AtD.offs {w wr : World} {b : Nat} {S : DS} (k : AtD w b S wr) {o : Bool} (h : S.off = o) : Calls Tryd.prog 18 #[.pointer (some ⟨b, 0, none⟩)] wr fun e w' => e = .returned (.bool o) ∧ w' = wr := by
  subst h; exact k.off
end Go.Proofs.YtdfnfmanpdafpaaDoor
